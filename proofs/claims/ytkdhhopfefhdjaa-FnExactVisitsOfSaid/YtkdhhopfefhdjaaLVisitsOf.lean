/- Proved: for all arguments, the program's VisitsOf returns what the reference's returns, and the arguments read afterwards as they did. No condition. -/
import Derived.Test.YtkdhhopfefhdjaaHead
import Derived.Test.YtkdhhopfefhdjaaVis
namespace Go.Proofs.Ytkdhhopfefhdjaa.lawVisitsOf
open Go.Proofs.Ytkdhhopfefhdjaa
open Go.ChangeShapes Go.WideShapes Go.ChangeAt Go.RowKit Go.Joins

attribute [local go_sem ↓] Go.wp_at_zero Go.wp_at_succ

set_option maxHeartbeats 3200000 in
theorem walk (ps0 : List Pt) (v0 : Value) (n1 m1 : Int) (x2 : Int) (n3 m3 : Int) (n4 m4 : Int) (k0 : Int) (t1 : Bool) (w : World) (hv0 : RdP w v0 ps0) (_bx2 : -9223372036854775808 ≤ x2 ∧ x2 ≤ 9223372036854775807) (hl : visQ ps0 (n1, m1) x2 (n3, m3) (n4, m4) = (k0, t1)) :
    Calls Try.prog 14 #[v0, .agg #[.int .i64 n1, .int .i64 m1], .int .i64 x2, .agg #[.int .i64 n3, .int .i64 m3], .agg #[.int .i64 n4, .int .i64 m4]] w fun e w' => e = .returned (.bool true) ∧ Below w.heap.size w w' := by
  have HL := Lib.hid hl
  clear hl
  by_cases hf0 : ps0.length ≤ 1048576
  rotate_left
  · go_enter Try.func14, Try.ntmps14
    go_wp2_with fail
    refine (szPointS_over ps0 v0 1048576 _ (hv0.keep (by go_grown)) (by omega) (by omega) (by omega)).mono ?_
    rintro e w0 ⟨rfl, h0⟩
    subst w0
    go_wp2_with fail
    go_ret
    exact ⟨rfl, by go_grown⟩
  have hn0 : ps0.length ≤ 1048576 := by omega
  go_enter Try.func14, Try.ntmps14
  go_wp2_with fail
  refine (szPointS_fits ps0 v0 1048576 _ (hv0.keep (by go_grown)) (by omega) (by omega)).mono ?_
  rintro e w0 ⟨rfl, h0⟩
  subst w0
  go_wp2_with fail
  go_name_world W0 hW
  have hX : Below w.heap.size w W0 := by rw [← hW]; go_grown
  have kL : Facts [(w.heap.size, 0, .int .i64 n1), (w.heap.size, 1, .int .i64 m1), (w.heap.size + 1, 0, .int .i64 n3), (w.heap.size + 1, 1, .int .i64 m3), (w.heap.size + 2, 0, .int .i64 n4), (w.heap.size + 2, 1, .int .i64 m4)] W0 := by rw [← hW]; simp [Facts, go_sem]
  replace hv0 := hv0.keep hX
  have hB : Below w.heap.size w W0 := hX
  clear hW hX
  go_region_held3 (fun w' => w'.cell? ⟨w.heap.size, 0, none⟩ = some (.int .i64 n1) ∧ w'.cell? ⟨w.heap.size, 1, none⟩ = some (.int .i64 m1) ∧ w'.cell? ⟨w.heap.size + 1, 0, none⟩ = some (.int .i64 n3) ∧ w'.cell? ⟨w.heap.size + 1, 1, none⟩ = some (.int .i64 m3) ∧ w'.cell? ⟨w.heap.size + 2, 0, none⟩ = some (.int .i64 n4) ∧ w'.cell? ⟨w.heap.size + 2, 1, none⟩ = some (.int .i64 m4))
    ((refine Facts.keep kL ?_; go_grown; done))
    ((first
      | (go_at_call 24; (with_reducible refine (toPointS_any ps0 v0 _ (hv0.keep (by go_grown)) hn0).mono ?_); rintro e w1 ⟨sr0, rfl, so0, hbw1⟩; have hsw1 : Below W0.heap.size W0 w1 := nextX (by go_grown) hbw1; have hXw1 : Below W0.heap.size W0 w1 := hsw1; have zw1 := hXw1.size)
      | (go_at_call 32; (with_reducible refine (toRat_any n1 m1 _).mono ?_); rintro e w2 ⟨rfl, hbw2⟩; have hsw2 : Below w1.heap.size w1 w2 := nextX (by go_grown) hbw2; have hXw2 : Below W0.heap.size W0 w2 := nextX hXw1 hsw2; have zw2 := hXw2.size)
      | (go_at_call 32; (with_reducible refine (toRat_any n3 m3 _).mono ?_); rintro e w3 ⟨rfl, hbw3⟩; have hsw3 : Below w2.heap.size w2 w3 := nextX (by go_grown) hbw3; have hXw3 : Below W0.heap.size W0 w3 := nextX hXw2 hsw3; have zw3 := hXw3.size)
      | (go_at_call 32; (with_reducible refine (toRat_any n4 m4 _).mono ?_); rintro e w4 ⟨rfl, hbw4⟩; have hsw4 : Below w3.heap.size w3 w4 := nextX (by go_grown) hbw4; have hXw4 : Below W0.heap.size W0 w4 := nextX hXw3 hsw4; have zw4 := hXw4.size)
      | (go_at_call 54; (with_reducible refine (sVisitsOf_is ps0 sr0 n1 m1 x2 n3 m3 n4 m4 k0 t1 HL.out _ ((((so0.keep hsw2).keep hsw3).keep hsw4).read.keep (by go_grown)) hn0).mono ?_); rintro e w5 ⟨rfl, hbw5⟩; have hsw5 : Below w4.heap.size w4 w5 := nextX (by go_grown) hbw5; have hXw5 : Below W0.heap.size W0 w5 := nextX hXw4 hsw5; have zw5 := hXw5.size)))
  replace hv0 := hv0.keep hXw5
  replace kL := kL.keep hXw5
  replace hB := nextW hB hXw5
  clear hbw1 hsw1 hXw1 hbw2 hsw2 hXw2 hbw3 hsw3 hXw3 hbw4 hsw4 hXw4 hbw5 hsw5 hXw5
  go_wp2_with fail
  go_wp2_with fail
  refine (toPointS_any ps0 v0 _ (hv0.keep (by go_grown)) hn0).mono ?_
  rintro e w6 ⟨x0r, rfl, x0o, hb⟩
  have hX : Below w5.heap.size w5 w6 := nextX (by go_grown) hb
  replace hv0 := hv0.keep hX
  replace kL := kL.keep hX
  replace hB := nextW hB hX
  clear hb hX
  go_wp2_with fail
  go_name_world W6 hW
  have hX : Below w6.heap.size w6 W6 := by rw [← hW]; go_grown
  replace hv0 := hv0.keep hX
  replace kL := kL.keep hX
  replace x0o := x0o.keep hX
  replace hB := nextW hB hX
  clear hW hX
  go_region_held3 (fun w' => w'.cell? ⟨w.heap.size, 0, none⟩ = some (.int .i64 n1) ∧ w'.cell? ⟨w.heap.size, 1, none⟩ = some (.int .i64 m1) ∧ w'.cell? ⟨w.heap.size + 1, 0, none⟩ = some (.int .i64 n3) ∧ w'.cell? ⟨w.heap.size + 1, 1, none⟩ = some (.int .i64 m3) ∧ w'.cell? ⟨w.heap.size + 2, 0, none⟩ = some (.int .i64 n4) ∧ w'.cell? ⟨w.heap.size + 2, 1, none⟩ = some (.int .i64 m4))
    ((refine Facts.keep kL ?_; go_grown; done))
    ((first
      | (go_at_call 32; (with_reducible refine (toRat_any n1 m1 _).mono ?_); rintro e w7 ⟨rfl, hbw7⟩; have hsw7 : Below W6.heap.size W6 w7 := nextX (by go_grown) hbw7; have hXw7 : Below W6.heap.size W6 w7 := hsw7; have zw7 := hXw7.size)
      | (go_at_call 32; (with_reducible refine (toRat_any n3 m3 _).mono ?_); rintro e w8 ⟨rfl, hbw8⟩; have hsw8 : Below w7.heap.size w7 w8 := nextX (by go_grown) hbw8; have hXw8 : Below W6.heap.size W6 w8 := nextX hXw7 hsw8; have zw8 := hXw8.size)
      | (go_at_call 32; (with_reducible refine (toRat_any n4 m4 _).mono ?_); rintro e w9 ⟨rfl, hbw9⟩; have hsw9 : Below w8.heap.size w8 w9 := nextX (by go_grown) hbw9; have hXw9 : Below W6.heap.size W6 w9 := nextX hXw8 hsw9; have zw9 := hXw9.size)
      | (go_at_call 55; (with_reducible refine (iVisitsOf_is ps0 x0r n1 m1 x2 n3 m3 n4 m4 k0 t1 HL.out _ (x0o.read.keep (by go_grown)) hn0).mono ?_); rintro e w10 ⟨rfl, hbw10⟩; have hsw10 : Below w9.heap.size w9 w10 := nextX (by go_grown) hbw10; have hXw10 : Below W6.heap.size W6 w10 := nextX hXw9 hsw10; have zw10 := hXw10.size)))
  replace hv0 := hv0.keep hXw10
  replace kL := kL.keep hXw10
  replace x0o := x0o.keep hXw10
  replace hB := nextW hB hXw10
  clear hbw7 hsw7 hXw7 hbw8 hsw8 hXw8 hbw9 hsw9 hXw9 hbw10 hsw10 hXw10
  go_wp2_with fail
  go_wp2_with fail
  refine (toPointS_any ps0 v0 _ (hv0.keep (by go_grown)) hn0).mono ?_
  rintro e w11 ⟨ar0, rfl, ao0, hb⟩
  have hX : Below w10.heap.size w10 w11 := nextX (by go_grown) hb
  replace hv0 := hv0.keep hX
  replace kL := kL.keep hX
  replace x0o := x0o.keep hX
  replace hB := nextW hB hX
  clear hb hX
  go_wp2_with fail
  refine (eqPointS_same ps0 x0r ar0 _ (x0o.read.keep (by go_grown)) (ao0.read.keep (by go_grown))).mono ?_
  rintro e w12 ⟨rfl, hb⟩
  have hX : Below w11.heap.size w11 w12 := nextX (by go_grown) hb
  replace hv0 := hv0.keep hX
  replace kL := kL.keep hX
  replace x0o := x0o.keep hX
  replace ao0 := ao0.keep hX
  replace hB := nextW hB hX
  clear hb hX
  clear ao0
  go_wp2_with fail
  go_ret
  exact ⟨rfl, hB⟩

set_option maxRecDepth 100000 in
theorem lifted (os : Os) (started : os.Started) (H : Type) (enc : TypeId × Value → H) :
    ReturnsInHanded {} Try.checked os 14 .any (Rows.fnExactVisitsOfSpec.pre6 enc Try.prog Try.f14 Rows.fnExactVisitsOfRow.domain false) (Rows.fnExactVisitsOfSpec.post enc Try.prog Try.f14 false true false false) := by
  refine returnsInHanded_of_change (C := Try.checked) Try.own started (by kernel_rfl) Try.func14
    (ChangeSpec.witness6 (enc := enc) (C := Try.checked) false ⟨#[], #[.slice none 0 0, .agg #[.int .i64 0, .int .i64 1], .int .i64 0, .agg #[.int .i64 0, .int .i64 1], .agg #[.int .i64 0, .int .i64 1]], []⟩ 8 (by kernel_rfl) (by kernel_rfl) (by kernel_rfl) (by kernel_rfl)) ?_
  intro W base args ds gs before hval0 hW hcnd _
  have hval : ∀ (j : Nat) t v, Try.f14.params[j]? = some t → args[j]? = some v → Value.okWide Try.prog W .any base t v := hval0
  have hW' := hW
  obtain ⟨p, q, hA0, hV, rfl, hfz, hnd⟩ := hW
  have hA : DataW.TrodAll enc Try.prog W 0 (fun _ => true) true Try.f14.params.toList args.toList ds p := hA0
  rw [Try.params14] at hA hval
  obtain ⟨v0, v1, v2, v3, v4, d0, d1, d2, d3, d4, p0, p1, p2, p3, p4, rfl, rfl, rfl, h0, h1, h2, h3, h4⟩ := Go.Proofs.Ytkdhhopfefhdjaa.trodAll_five hA
  obtain ⟨ps0, hp0⟩ := open_pts (hval 0 22 v0 rfl rfl) h0
  obtain ⟨n1, m1, rfl, bn1, bm1⟩ := open_rat (hval 1 33 v1 rfl rfl) h1
  obtain ⟨x2, rfl, bx2⟩ := open_whole (hval 2 3 v2 rfl rfl) h2
  obtain ⟨n3, m3, rfl, bn3, bm3⟩ := open_rat (hval 3 33 v3 rfl rfl) h3
  obtain ⟨n4, m4, rfl, bn4, bm4⟩ := open_rat (hval 4 33 v4 rfl rfl) h4
  refine (walk ps0 v0 n1 m1 x2 n3 m3 n4 m4 _ _ W hp0 bx2 rfl).mono fun e W' ⟨he, hb⟩ => ?_
  subst he
  exact ⟨_, rfl, law_close Try.laidOut (by kernel_rfl) (by kernel_rfl) Try.underlying4 rfl hW' (fun h => by rfl) hb⟩

set_option maxHeartbeats 800000 in
theorem joined : joinedFacts Try.pinned.checked.prog 14 Try.f14 Rows.fnExactVisitsOfSpec Rows.fnExactVisitsOfRow = true := by
  delta joinedFacts
  with_reducible repeat' apply and_yes
  all_goals first
    | (with_reducible exact headEnter)
    | (with_reducible refine beq_of headFinal ?_; as_aux_lemma => kernel_rfl)
    | (with_reducible refine beq_of' headMake ?_; as_aux_lemma => kernel_rfl)
    | (as_aux_lemma => kernel_rfl)

theorem proved : Rows.FnExactVisitsOfSaid :=
  OpenClaim.holds_of_wide 14 Try.f14 rfl rfl rfl rfl rfl rfl rfl ⟨rfl, rfl, rfl, rfl, rfl⟩ rfl rfl rfl rfl rfl (by kernel_rfl) Try.func14 joined
    (of_decide_eq_true (by kernel_rfl)) (by unfold Func.isWrapper; first | (rw [if_pos (by decide +kernel)]; kernel_rfl) | (rw [if_neg (by decide +kernel)]; exact ⟨rfl, rfl⟩))
    (fun os started H enc _ => lifted os started H enc)

end Go.Proofs.Ytkdhhopfefhdjaa.lawVisitsOf
