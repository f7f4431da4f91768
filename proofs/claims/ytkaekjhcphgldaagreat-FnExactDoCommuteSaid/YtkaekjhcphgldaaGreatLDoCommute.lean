/- Proved: for all arguments, the program's DoCommute returns what the reference's returns, and the arguments read afterwards as they did. No condition. -/
import Derived.Test.YtkaekjhcphgldaaGreatHead
import Derived.Test.YtkaekjhcphgldaaGreatDoC
namespace Go.Proofs.YtkaekjhcphgldaaGreat.lawDoCommute
open Go.Proofs.YtkaekjhcphgldaaGreat
open Go.ChangeShapes Go.WideShapes Go.ChangeAt Go.RowKit Go.Joins

attribute [local go_sem ↓] Go.wp_at_zero Go.wp_at_succ

set_option maxHeartbeats 3200000 in
theorem walk (ps0 : List Pt) (v0 : Value) (ps1 : List Pt) (v1 : Value) (t0 : Bool) (t1 : Bool) (w : World) (hv0 : RdP w v0 ps0) (hv1 : RdP w v1 ps1) (hl : commQ ps0 ps1 = (t0, t1)) :
    Calls Tryz.prog 5 #[v0, v1] w fun e w' => e = .returned (.bool true) ∧ Below w.heap.size w w' := by
  have HL := Lib.hid hl
  clear hl
  by_cases hf0 : ps0.length ≤ 1048576
  rotate_left
  · go_enter Tryz.func5, Tryz.ntmps5
    go_wp2_with fail
    refine (szPointS_over ps0 v0 1048576 _ (hv0.keep (by go_grown)) (by omega) (by omega) (by omega)).mono ?_
    rintro e w0 ⟨rfl, h0⟩
    subst w0
    go_wp2_with fail
    go_ret
    exact ⟨rfl, by go_grown⟩
  by_cases hf1 : ps0.length + ps1.length ≤ 1048576
  rotate_left
  · go_enter Tryz.func5, Tryz.ntmps5
    go_wp2_with fail
    refine (szPointS_fits ps0 v0 1048576 _ (hv0.keep (by go_grown)) (by omega) (by omega)).mono ?_
    rintro e w0 ⟨rfl, h0⟩
    subst w0
    go_wp2_with fail
    refine (szPointS_over ps1 v1 _ _ (hv1.keep (by go_grown)) (by omega) (by omega) (by omega)).mono ?_
    rintro e w0 ⟨rfl, h0⟩
    subst w0
    go_wp2_with fail
    go_ret
    exact ⟨rfl, by go_grown⟩
  have hn0 : ps0.length ≤ 1048576 := by omega
  have hn1 : ps1.length ≤ 1048576 := by omega
  go_enter Tryz.func5, Tryz.ntmps5
  go_wp2_with fail
  refine (szPointS_fits ps0 v0 1048576 _ (hv0.keep (by go_grown)) (by omega) (by omega)).mono ?_
  rintro e w0 ⟨rfl, h0⟩
  subst w0
  go_wp2_with fail
  refine (szPointS_fits ps1 v1 _ _ (hv1.keep (by go_grown)) (by omega) (by omega)).mono ?_
  rintro e w0 ⟨rfl, h0⟩
  subst w0
  go_wp2_with fail
  refine (toPointS_any ps0 v0 _ (hv0.keep (by go_grown)) hn0).mono ?_
  rintro e w1 ⟨sr0, rfl, so0, hb⟩
  have hX : Below w.heap.size w w1 := nextX (by go_grown) hb
  replace hv0 := hv0.keep hX
  replace hv1 := hv1.keep hX
  have hB : Below w.heap.size w w1 := hX
  clear hb hX
  go_wp2_with fail
  refine (toPointS_any ps1 v1 _ (hv1.keep (by go_grown)) hn1).mono ?_
  rintro e w2 ⟨sr1, rfl, so1, hb⟩
  have hX : Below w1.heap.size w1 w2 := nextX (by go_grown) hb
  replace hv0 := hv0.keep hX
  replace hv1 := hv1.keep hX
  replace so0 := so0.keep hX
  replace hB := nextW hB hX
  clear hb hX
  go_wp2_with fail
  refine (sDoCommute_is ps0 ps1 sr0 sr1 t0 t1 HL.out _ (so0.read.keep (by go_grown)) (so1.read.keep (by go_grown)) hn0 hn1).mono ?_
  rintro e w3 ⟨rfl, hb⟩
  have hX : Below w2.heap.size w2 w3 := nextX (by go_grown) hb
  clear so0
  clear so1
  replace hv0 := hv0.keep hX
  replace hv1 := hv1.keep hX
  replace hB := nextW hB hX
  clear hb hX
  go_wp2_with fail
  refine (toPointS_any ps0 v0 _ (hv0.keep (by go_grown)) hn0).mono ?_
  rintro e w4 ⟨x0r, rfl, x0o, hb⟩
  have hX : Below w3.heap.size w3 w4 := nextX (by go_grown) hb
  replace hv0 := hv0.keep hX
  replace hv1 := hv1.keep hX
  replace hB := nextW hB hX
  clear hb hX
  go_wp2_with fail
  refine (toPointS_any ps1 v1 _ (hv1.keep (by go_grown)) hn1).mono ?_
  rintro e w5 ⟨x1r, rfl, x1o, hb⟩
  have hX : Below w4.heap.size w4 w5 := nextX (by go_grown) hb
  replace hv0 := hv0.keep hX
  replace hv1 := hv1.keep hX
  replace x0o := x0o.keep hX
  replace hB := nextW hB hX
  clear hb hX
  go_wp2_with fail
  refine (iDoCommute_is ps0 ps1 x0r x1r t0 t1 HL.out _ (x0o.read.keep (by go_grown)) (x1o.read.keep (by go_grown)) hn0 hn1).mono ?_
  rintro e w6 ⟨rfl, hb⟩
  have hX : Below w5.heap.size w5 w6 := nextX (by go_grown) hb
  replace hv0 := hv0.keep hX
  replace hv1 := hv1.keep hX
  replace x0o := x0o.keep hX
  replace x1o := x1o.keep hX
  replace hB := nextW hB hX
  clear hb hX
  go_wp2_with fail
  refine (toPointS_any ps0 v0 _ (hv0.keep (by go_grown)) hn0).mono ?_
  rintro e w7 ⟨ar0, rfl, ao0, hb⟩
  have hX : Below w6.heap.size w6 w7 := nextX (by go_grown) hb
  replace hv0 := hv0.keep hX
  replace hv1 := hv1.keep hX
  replace x0o := x0o.keep hX
  replace x1o := x1o.keep hX
  replace hB := nextW hB hX
  clear hb hX
  go_wp2_with fail
  refine (eqPointS_same ps0 x0r ar0 _ (x0o.read.keep (by go_grown)) (ao0.read.keep (by go_grown))).mono ?_
  rintro e w8 ⟨rfl, hb⟩
  have hX : Below w7.heap.size w7 w8 := nextX (by go_grown) hb
  replace hv0 := hv0.keep hX
  replace hv1 := hv1.keep hX
  replace x0o := x0o.keep hX
  replace x1o := x1o.keep hX
  replace ao0 := ao0.keep hX
  replace hB := nextW hB hX
  clear hb hX
  clear ao0
  go_wp2_with fail
  refine (toPointS_any ps1 v1 _ (hv1.keep (by go_grown)) hn1).mono ?_
  rintro e w9 ⟨ar1, rfl, ao1, hb⟩
  have hX : Below w8.heap.size w8 w9 := nextX (by go_grown) hb
  replace hv0 := hv0.keep hX
  replace hv1 := hv1.keep hX
  replace x0o := x0o.keep hX
  replace x1o := x1o.keep hX
  replace hB := nextW hB hX
  clear hb hX
  go_wp2_with fail
  refine (eqPointS_same ps1 x1r ar1 _ (x1o.read.keep (by go_grown)) (ao1.read.keep (by go_grown))).mono ?_
  rintro e w10 ⟨rfl, hb⟩
  have hX : Below w9.heap.size w9 w10 := nextX (by go_grown) hb
  replace hv0 := hv0.keep hX
  replace hv1 := hv1.keep hX
  replace x0o := x0o.keep hX
  replace x1o := x1o.keep hX
  replace ao1 := ao1.keep hX
  replace hB := nextW hB hX
  clear hb hX
  clear ao1
  go_wp2_with fail
  go_ret
  exact ⟨rfl, hB⟩

set_option maxRecDepth 100000 in
theorem lifted (os : Os) (started : os.Started) (H : Type) (enc : TypeId × Value → H) :
    ReturnsInHanded {} Tryz.checked os 5 .any (Rows.fnExactDoCommuteSpec.pre6 enc Tryz.prog Tryz.f5 Rows.fnExactDoCommuteRow.domain false) (Rows.fnExactDoCommuteSpec.post enc Tryz.prog Tryz.f5 false true false false) := by
  refine returnsInHanded_of_change (C := Tryz.checked) Tryz.own started (by kernel_rfl) Tryz.func5
    (ChangeSpec.witness6 (enc := enc) (C := Tryz.checked) false ⟨#[], #[.slice none 0 0, .slice none 0 0], []⟩ 8 (by kernel_rfl) (by kernel_rfl) (by kernel_rfl) (by kernel_rfl)) ?_
  intro W base args ds gs before hval0 hW hcnd _
  have hval : ∀ (j : Nat) t v, Tryz.f5.params[j]? = some t → args[j]? = some v → Value.okWide Tryz.prog W .any base t v := hval0
  have hW' := hW
  obtain ⟨p, q, hA0, hV, rfl, hfz, hnd⟩ := hW
  have hA : DataW.TrodAll enc Tryz.prog W 0 (fun _ => true) true Tryz.f5.params.toList args.toList ds p := hA0
  rw [Tryz.params5] at hA hval
  obtain ⟨v0, v1, d0, d1, p0, p1, rfl, rfl, rfl, h0, h1⟩ := trodAll_two hA
  obtain ⟨ps0, hp0⟩ := open_pts (hval 0 22 v0 rfl rfl) h0
  obtain ⟨ps1, hp1⟩ := open_pts (hval 1 22 v1 rfl rfl) h1
  refine (walk ps0 v0 ps1 v1 _ _ W hp0 hp1 rfl).mono fun e W' ⟨he, hb⟩ => ?_
  subst he
  exact ⟨_, rfl, law_close Tryz.laidOut (by kernel_rfl) (by kernel_rfl) Tryz.underlying4 rfl hW' (fun h => by rfl) hb⟩

set_option maxHeartbeats 800000 in
theorem joined : joinedFacts Tryz.pinned.checked.prog 5 Tryz.f5 Rows.fnExactDoCommuteSpec Rows.fnExactDoCommuteRow = true := by
  delta joinedFacts
  with_reducible repeat' apply and_yes
  all_goals first
    | (with_reducible exact headEnter)
    | (with_reducible refine beq_of headFinal ?_; as_aux_lemma => kernel_rfl)
    | (with_reducible refine beq_of' headMake ?_; as_aux_lemma => kernel_rfl)
    | (as_aux_lemma => kernel_rfl)

theorem proved : Rows.FnExactDoCommuteSaid :=
  OpenClaim.holds_of_wide 5 Tryz.f5 rfl rfl rfl rfl rfl rfl rfl ⟨rfl, rfl, rfl, rfl, rfl⟩ rfl rfl rfl rfl rfl (by kernel_rfl) Tryz.func5 joined
    (of_decide_eq_true (by kernel_rfl)) (by unfold Func.isWrapper; first | (rw [if_pos (by decide +kernel)]; kernel_rfl) | (rw [if_neg (by decide +kernel)]; exact ⟨rfl, rfl⟩))
    (fun os started H enc _ => lifted os started H enc)

end Go.Proofs.YtkaekjhcphgldaaGreat.lawDoCommute
