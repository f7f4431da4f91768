/- Proved: for all arguments, the program's MultiplierAt returns what the reference's returns, and the arguments read afterwards as they did. No condition. -/
import Derived.Test.YtkdhhopfefhdjaaHead
import Derived.Test.YtkdhhopfefhdjaaMulJ
namespace Go.Proofs.Ytkdhhopfefhdjaa.lawMultiplierAt
open Go.Proofs.Ytkdhhopfefhdjaa
open Go.ChangeShapes Go.WideShapes Go.ChangeAt Go.RowKit Go.Joins

attribute [local go_sem ↓] Go.wp_at_zero Go.wp_at_succ

set_option maxHeartbeats 3200000 in
theorem walk (ps0 : List Pt) (v0 : Value) (n1 m1 : Int) (x2 : Int) (a0 b0 : Int) (t1 : Bool) (w : World) (hv0 : RdP w v0 ps0) (_bx2 : -9223372036854775808 ≤ x2 ∧ x2 ≤ 9223372036854775807) (hl : multQ ps0 (n1, m1) x2 = (a0, b0, t1)) :
    Calls Try.prog 21 #[v0, .agg #[.int .i64 n1, .int .i64 m1], .int .i64 x2] w fun e w' => e = .returned (.bool true) ∧ Below w.heap.size w w' := by
  have HL := Lib.hid hl
  clear hl
  by_cases hf0 : ps0.length ≤ 1048576
  rotate_left
  · go_enter Try.func21, Try.ntmps21
    go_wp2_with fail
    refine (szPointS_over ps0 v0 1048576 _ (hv0.keep (by go_grown)) (by omega) (by omega) (by omega)).mono ?_
    rintro e w0 ⟨rfl, h0⟩
    subst w0
    go_wp2_with fail
    go_ret
    exact ⟨rfl, by go_grown⟩
  have hn0 : ps0.length ≤ 1048576 := by omega
  go_enter Try.func21, Try.ntmps21
  go_wp2_with fail
  refine (szPointS_fits ps0 v0 1048576 _ (hv0.keep (by go_grown)) (by omega) (by omega)).mono ?_
  rintro e w0 ⟨rfl, h0⟩
  subst w0
  go_wp2_with fail
  go_name_world W0 hW
  have hX : Below w.heap.size w W0 := by rw [← hW]; go_grown
  have kL : Facts [(w.heap.size, 0, .int .i64 n1), (w.heap.size, 1, .int .i64 m1)] W0 := by rw [← hW]; simp [Facts, go_sem]
  replace hv0 := hv0.keep hX
  have hB : Below w.heap.size w W0 := hX
  clear hW hX
  go_cut [8, 9] (fun s8 s9 wx => VarQ wx s8 W0.heap.size a0 b0 ∧ s9 = .bool t1 ∧ Below W0.heap.size W0 wx)
  case first =>
    go_region_held3 (fun w' => w'.cell? ⟨w.heap.size, 0, none⟩ = some (.int .i64 n1) ∧ w'.cell? ⟨w.heap.size, 1, none⟩ = some (.int .i64 m1))
      ((refine Facts.keep kL ?_; go_grown; done))
      ((first
        | (go_at_call 24; (with_reducible refine (toPointS_any ps0 v0 _ (hv0.keep (by go_grown)) hn0).mono ?_); rintro e w1 ⟨sr0, rfl, so0, hbw1⟩; have hsw1 : Below W0.heap.size W0 w1 := nextX (by go_grown) hbw1; have hXw1 : Below W0.heap.size W0 w1 := hsw1; have zw1 := hXw1.size; (first | (with_reducible have nw1 := fresh2 hbw1) | (with_reducible have nw1 := fresh2D hbw1) | skip))
        | (go_at_call 32; (with_reducible refine (toRat_any n1 m1 _).mono ?_); rintro e w2 ⟨rfl, hbw2⟩; have hsw2 : Below w1.heap.size w1 w2 := nextX (by go_grown) hbw2; have hXw2 : Below W0.heap.size W0 w2 := nextX hXw1 hsw2; have zw2 := hXw2.size; (first | (with_reducible have nw2 := fresh2 hbw2) | (with_reducible have nw2 := fresh2D hbw2) | (with_reducible have nw2 := Fresh2.keep nw1 hsw2) | skip))
        | (go_at_call 71; (with_reducible refine (sMultiplierAt_is ps0 sr0 n1 m1 x2 a0 b0 t1 HL.out _ ((so0.keep hsw2).read.keep (by go_grown)) hn0).mono ?_); rintro e w3 ⟨rfl, hbw3⟩; have hsw3 : Below w2.heap.size w2 w3 := nextX (by go_grown) hbw3; have hXw3 : Below W0.heap.size W0 w3 := nextX hXw2 hsw3; have zw3 := hXw3.size; (first | (with_reducible have nw3 := fresh2 hbw3) | (with_reducible have nw3 := fresh2D hbw3) | (with_reducible have nw3 := Fresh2.keep nw2 hsw3) | skip); (first | obtain ⟨⟨p0, f0⟩, p1, f1⟩ := nw3 | skip))))
    all_goals (go_wp2_with fail; go_meet; first
      | exact ⟨VarQ.made (by omega) _ _ _, rfl, by go_grown⟩
      | exact ⟨VarQ.stored ⟨p0, f0⟩ ⟨p1, f1⟩ (by omega) _ _, rfl, by go_grown⟩)
  case rest =>
    obtain ⟨⟨sg, rfl, hsg, sg0, sg1⟩, rfl, hX⟩ := hcut
    replace hv0 := hv0.keep hX
    replace kL := kL.keep hX
    replace hB := nextW hB hX
    clear hX
    go_wp2_with fail
    refine (toPointS_any ps0 v0 _ (hv0.keep (by go_grown)) hn0).mono ?_
    rintro e w5 ⟨x0r, rfl, x0o, hb⟩
    have hX : Below wc.heap.size wc w5 := nextX (by go_grown) hb
    replace hv0 := hv0.keep hX
    replace kL := kL.keep hX
    replace sg0 := slotB hX sg0
    replace sg1 := slotB hX sg1
    replace hB := nextW hB hX
    clear hb hX
    have kq := kL
    simp only [Facts] at kq
    obtain ⟨e0, e1⟩ := kq
    go_wp2_with fail
    clear e0 e1
    refine (toRat_any n1 m1 _).mono ?_
    rintro e w6 ⟨rfl, hb⟩
    have hX : Below w5.heap.size w5 w6 := nextX (by go_grown) hb
    replace hv0 := hv0.keep hX
    replace kL := kL.keep hX
    replace sg0 := slotB hX sg0
    replace sg1 := slotB hX sg1
    replace x0o := x0o.keep hX
    replace hB := nextW hB hX
    clear hb hX
    go_wp2_with fail
    refine (iMultiplierAt_is ps0 x0r n1 m1 x2 a0 b0 t1 HL.out _ (x0o.read.keep (by go_grown)) hn0).mono ?_
    rintro e w7 ⟨rfl, hb⟩
    have hX : Below w6.heap.size w6 w7 := nextX (by go_grown) hb
    replace hv0 := hv0.keep hX
    replace kL := kL.keep hX
    replace sg0 := slotB hX sg0
    replace sg1 := slotB hX sg1
    replace x0o := x0o.keep hX
    replace hB := nextW hB hX
    clear hb hX
    have q2 := sg0.1
    have q3 := sg1.1
    have zq := lt_of_cell q2
    go_wp2_with fail
    clear q2 q3
    refine (eqRat_same a0 b0 _).mono ?_
    rintro e w8 ⟨rfl, hb⟩
    have hX : Below w7.heap.size w7 w8 := nextX (by go_grown) hb
    replace hv0 := hv0.keep hX
    replace kL := kL.keep hX
    replace sg0 := slotB hX sg0
    replace sg1 := slotB hX sg1
    replace x0o := x0o.keep hX
    replace hB := nextW hB hX
    clear hb hX
    go_wp2_with fail
    refine (toPointS_any ps0 v0 _ (hv0.keep (by go_grown)) hn0).mono ?_
    rintro e w9 ⟨ar0, rfl, ao0, hb⟩
    have hX : Below w8.heap.size w8 w9 := nextX (by go_grown) hb
    replace hv0 := hv0.keep hX
    replace kL := kL.keep hX
    replace sg0 := slotB hX sg0
    replace sg1 := slotB hX sg1
    replace x0o := x0o.keep hX
    replace hB := nextW hB hX
    clear hb hX
    go_wp2_with fail
    refine (eqPointS_same ps0 x0r ar0 _ (x0o.read.keep (by go_grown)) (ao0.read.keep (by go_grown))).mono ?_
    rintro e w10 ⟨rfl, hb⟩
    have hX : Below w9.heap.size w9 w10 := nextX (by go_grown) hb
    replace hv0 := hv0.keep hX
    replace kL := kL.keep hX
    replace sg0 := slotB hX sg0
    replace sg1 := slotB hX sg1
    replace x0o := x0o.keep hX
    replace ao0 := ao0.keep hX
    replace hB := nextW hB hX
    clear hb hX
    clear ao0
    go_wp2_with fail
    go_ret
    exact ⟨rfl, hB⟩

set_option maxRecDepth 100000 in
theorem lifted (os : Os) (started : os.Started) (H : Type) (enc : TypeId × Value → H) :
    ReturnsInHanded {} Try.checked os 21 .any (Rows.fnExactMultiplierAtSpec.pre6 enc Try.prog Try.f21 Rows.fnExactMultiplierAtRow.domain false) (Rows.fnExactMultiplierAtSpec.post enc Try.prog Try.f21 false true false false) := by
  refine returnsInHanded_of_change (C := Try.checked) Try.own started (by kernel_rfl) Try.func21
    (ChangeSpec.witness6 (enc := enc) (C := Try.checked) false ⟨#[], #[.slice none 0 0, .agg #[.int .i64 0, .int .i64 1], .int .i64 0], []⟩ 8 (by kernel_rfl) (by kernel_rfl) (by kernel_rfl) (by kernel_rfl)) ?_
  intro W base args ds gs before hval0 hW hcnd _
  have hval : ∀ (j : Nat) t v, Try.f21.params[j]? = some t → args[j]? = some v → Value.okWide Try.prog W .any base t v := hval0
  have hW' := hW
  obtain ⟨p, q, hA0, hV, rfl, hfz, hnd⟩ := hW
  have hA : DataW.TrodAll enc Try.prog W 0 (fun _ => true) true Try.f21.params.toList args.toList ds p := hA0
  rw [Try.params21] at hA hval
  obtain ⟨v0, v1, v2, d0, d1, d2, p0, p1, p2, rfl, rfl, rfl, h0, h1, h2⟩ := trodAll_three hA
  obtain ⟨ps0, hp0⟩ := open_pts (hval 0 22 v0 rfl rfl) h0
  obtain ⟨n1, m1, rfl, bn1, bm1⟩ := open_rat (hval 1 33 v1 rfl rfl) h1
  obtain ⟨x2, rfl, bx2⟩ := open_whole (hval 2 3 v2 rfl rfl) h2
  refine (walk ps0 v0 n1 m1 x2 _ _ _ W hp0 bx2 rfl).mono fun e W' ⟨he, hb⟩ => ?_
  subst he
  exact ⟨_, rfl, law_close Try.laidOut (by kernel_rfl) (by kernel_rfl) Try.underlying4 rfl hW' (fun h => by rfl) hb⟩

set_option maxHeartbeats 800000 in
theorem joined : joinedFacts Try.pinned.checked.prog 21 Try.f21 Rows.fnExactMultiplierAtSpec Rows.fnExactMultiplierAtRow = true := by
  delta joinedFacts
  with_reducible repeat' apply and_yes
  all_goals first
    | (with_reducible exact headEnter)
    | (with_reducible refine beq_of headFinal ?_; as_aux_lemma => kernel_rfl)
    | (with_reducible refine beq_of' headMake ?_; as_aux_lemma => kernel_rfl)
    | (as_aux_lemma => kernel_rfl)

theorem proved : Rows.FnExactMultiplierAtSaid :=
  OpenClaim.holds_of_wide 21 Try.f21 rfl rfl rfl rfl rfl rfl rfl ⟨rfl, rfl, rfl, rfl, rfl⟩ rfl rfl rfl rfl rfl (by kernel_rfl) Try.func21 joined
    (of_decide_eq_true (by kernel_rfl)) (by unfold Func.isWrapper; first | (rw [if_pos (by decide +kernel)]; kernel_rfl) | (rw [if_neg (by decide +kernel)]; exact ⟨rfl, rfl⟩))
    (fun os started H enc _ => lifted os started H enc)

end Go.Proofs.Ytkdhhopfefhdjaa.lawMultiplierAt
