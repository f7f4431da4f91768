/- Proved: for all arguments, the program's PointsBefore returns what the reference's returns, and the arguments read afterwards as they did. No condition. -/
import Derived.Test.YtkaekjhcphgldaaHead
import Derived.Test.YtkaekjhcphgldaaBefD
import Derived.Test.YtkaekjhcphgldaaMarks
namespace Go.Proofs.Ytkaekjhcphgldaa.lawPointsBefore
open Go.Proofs.Ytkaekjhcphgldaa
open Go.ChangeShapes Go.WideShapes Go.ChangeAt Go.RowKit Go.Joins

attribute [local go_sem ↓] Go.wp_at_zero Go.wp_at_succ

set_option maxHeartbeats 3200000 in
theorem walk (ps0 : List Pt) (v0 : Value) (n1 m1 : Int) (l0 : List Q) (t1 : Bool) (w : World) (hv0 : RdP w v0 ps0) (hl : befOf ps0 (n1, m1) = (l0, t1)) :
    Calls Try.prog 4 #[v0, .agg #[.int .i64 n1, .int .i64 m1]] w fun e w' => e = .returned (.bool true) ∧ Below w.heap.size w w' := by
  have HL := Lib.hid hl
  clear hl
  by_cases hf0 : ps0.length ≤ 1048576
  rotate_left
  · go_enter Try.func4, Try.ntmps4
    go_wp2_with fail
    refine (szPointS_over ps0 v0 1048576 _ (hv0.keep (by go_grown)) (by omega) (by omega) (by omega)).mono ?_
    rintro e w0 ⟨rfl, h0⟩
    subst w0
    go_wp2_with fail
    go_ret
    exact ⟨rfl, by go_grown⟩
  have hn0 : ps0.length ≤ 1048576 := by omega
  go_enter Try.func4, Try.ntmps4
  go_wp2_with fail
  refine (szPointS_fits ps0 v0 1048576 _ (hv0.keep (by go_grown)) (by omega) (by omega)).mono ?_
  rintro e w0 ⟨rfl, h0⟩
  subst w0
  go_wp2_with fail
  go_name_world W0 hW
  have hX : Below w.heap.size w W0 := by rw [← hW]; go_grown
  have kL : Facts [(w.heap.size, 0, .int .i64 n1), (w.heap.size, 1, .int .i64 m1)] W0 := by rw [← hW]; simp [Facts, go_sem]
  replace hv0 := hv0.keep hX
  have hB : Below w.heap.size w W0 := hX
  clear hW hX
  go_region_held3 (fun w' => w'.cell? ⟨w.heap.size, 0, none⟩ = some (.int .i64 n1) ∧ w'.cell? ⟨w.heap.size, 1, none⟩ = some (.int .i64 m1))
    ((refine Facts.keep kL ?_; go_grown; done))
    ((first
      | (go_at_call 11; (with_reducible refine (toPointS_any ps0 v0 _ (hv0.keep (by go_grown)) hn0).mono ?_); rintro e w1 ⟨sr0, rfl, so0, hbw1⟩; have hsw1 : Below W0.heap.size W0 w1 := nextX (by go_grown) hbw1; have hXw1 : Below W0.heap.size W0 w1 := hsw1; have zw1 := hXw1.size)
      | (go_at_call 19; (with_reducible refine (toRat_any n1 m1 _).mono ?_); rintro e w2 ⟨rfl, hbw2⟩; have hsw2 : Below w1.heap.size w1 w2 := nextX (by go_grown) hbw2; have hXw2 : Below W0.heap.size W0 w2 := nextX hXw1 hsw2; have zw2 := hXw2.size)
      | (go_at_call 18; (with_reducible refine (sPointsBefore_is ps0 sr0 n1 m1 l0 t1 HL.out _ ((so0.keep hsw2).read.keep (by go_grown)) hn0).mono ?_); rintro e w3 ⟨sv, rfl, sw, hbw3⟩; have hsw3 : Below w2.heap.size w2 w3 := nextX (by go_grown) hbw3; have hXw3 : Below W0.heap.size W0 w3 := nextX hXw2 hsw3; have zw3 := hXw3.size)))
  obtain ⟨Bsv, hBsv, hBsvn, sw⟩ : ∃ B, W0.heap.size ≤ B ∧ B ≤ w3.heap.size ∧ OwQ B 37 w3 sv l0 := ⟨_, by go_size, hbw3.size, sw⟩
  have ox_0_sv : OldP Bsv v0 ps0 := hv0.oldP hBsv
  have fx_sv := kL.ltB hBsv
  have hw_sv : w.heap.size ≤ Bsv := Nat.le_trans hB.size hBsv
  replace hv0 := hv0.keep hXw3
  replace kL := kL.keep hXw3
  replace hB := nextW hB hXw3
  clear hbw1 hsw1 hXw1 hbw2 hsw2 hXw2 hbw3 hsw3 hXw3
  go_wp2_with fail
  go_wp2_with fail
  refine (toPointS_any ps0 v0 _ (hv0.keep (by go_grown)) hn0).mono ?_
  rintro e w4 ⟨x0r, rfl, x0o, hb⟩
  have hX : Below w3.heap.size w3 w4 := nextX (by go_grown) hb
  obtain ⟨Bx0r, hBx0r, hBx0rn, x0o⟩ : ∃ B, w3.heap.size ≤ B ∧ B ≤ w4.heap.size ∧ OwP B 56 w4 x0r ps0 := ⟨_, by go_size, hb.size, x0o⟩
  have sp_sv_x0r : Sep sv x0r := sep_rows sw x0o hBx0r
  have ox_0_x0r : OldP Bx0r v0 ps0 := hv0.oldP hBx0r
  have fx_x0r := kL.ltB hBx0r
  have hw_x0r : w.heap.size ≤ Bx0r := Nat.le_trans hB.size hBx0r
  replace hv0 := hv0.keep hX
  replace kL := kL.keep hX
  replace sw := sw.keep hX
  replace hBsvn := Nat.le_trans hBsvn hX.size
  replace hB := nextW hB hX
  clear hb hX
  have kq := kL
  simp only [Facts] at kq
  obtain ⟨e0, e1⟩ := kq
  go_wp2_with fail
  clear e0 e1
  refine (toRat_any n1 m1 _).mono ?_
  rintro e w5 ⟨rfl, hb⟩
  have hX : Below w4.heap.size w4 w5 := nextX (by go_grown) hb
  replace hv0 := hv0.keep hX
  replace kL := kL.keep hX
  replace sw := sw.keep hX
  replace hBsvn := Nat.le_trans hBsvn hX.size
  replace x0o := x0o.keep hX
  replace hBx0rn := Nat.le_trans hBx0rn hX.size
  replace hB := nextW hB hX
  clear hb hX
  go_wp2_with fail
  refine (iPointsBefore_is ps0 x0r n1 m1 l0 t1 HL.out _ (x0o.read.keep (by go_grown)) hn0).mono ?_
  rintro e w6 ⟨gv, rfl, gw, hb⟩
  have hX : Below w5.heap.size w5 w6 := nextX (by go_grown) hb
  obtain ⟨Bgv, hBgv, hBgvn, gw⟩ : ∃ B, w5.heap.size ≤ B ∧ B ≤ w6.heap.size ∧ OwQ B 37 w6 gv l0 := ⟨_, by go_size, hb.size, gw⟩
  have sp_sv_gv : Sep sv gv := sep_rows sw gw hBgv
  have sp_x0r_gv : Sep x0r gv := sep_rows x0o gw hBgv
  have ox_0_gv : OldP Bgv v0 ps0 := hv0.oldP hBgv
  have fx_gv := kL.ltB hBgv
  have hw_gv : w.heap.size ≤ Bgv := Nat.le_trans hB.size hBgv
  replace hv0 := hv0.keep hX
  replace kL := kL.keep hX
  replace sw := sw.keep hX
  replace hBsvn := Nat.le_trans hBsvn hX.size
  replace x0o := x0o.keep hX
  replace hBx0rn := Nat.le_trans hBx0rn hX.size
  replace hB := nextW hB hX
  clear hb hX
  go_wp2_with fail
  refine (eqRatS_same l0 gv sv _ (gw.read.keep (by go_grown)) (sw.read.keep (by go_grown))).mono ?_
  rintro e w7 ⟨rfl, hb⟩
  have hX : Below w6.heap.size w6 w7 := nextX (by go_grown) hb
  replace hv0 := hv0.keep hX
  replace kL := kL.keep hX
  replace sw := sw.keep hX
  replace hBsvn := Nat.le_trans hBsvn hX.size
  replace x0o := x0o.keep hX
  replace hBx0rn := Nat.le_trans hBx0rn hX.size
  replace gw := gw.keep hX
  replace hBgvn := Nat.le_trans hBgvn hX.size
  replace hB := nextW hB hX
  clear hb hX
  go_wp2_with fail
  refine (toPointS_any ps0 v0 _ (hv0.keep (by go_grown)) hn0).mono ?_
  rintro e w8 ⟨ar0, rfl, ao0, hb⟩
  have hX : Below w7.heap.size w7 w8 := nextX (by go_grown) hb
  replace hv0 := hv0.keep hX
  replace kL := kL.keep hX
  replace sw := sw.keep hX
  replace hBsvn := Nat.le_trans hBsvn hX.size
  replace x0o := x0o.keep hX
  replace hBx0rn := Nat.le_trans hBx0rn hX.size
  replace gw := gw.keep hX
  replace hBgvn := Nat.le_trans hBgvn hX.size
  replace hB := nextW hB hX
  clear hb hX
  go_wp2_with fail
  refine (eqPointS_same ps0 x0r ar0 _ (x0o.read.keep (by go_grown)) (ao0.read.keep (by go_grown))).mono ?_
  rintro e w9 ⟨rfl, hb⟩
  have hX : Below w8.heap.size w8 w9 := nextX (by go_grown) hb
  replace hv0 := hv0.keep hX
  replace kL := kL.keep hX
  replace sw := sw.keep hX
  replace hBsvn := Nat.le_trans hBsvn hX.size
  replace x0o := x0o.keep hX
  replace hBx0rn := Nat.le_trans hBx0rn hX.size
  replace gw := gw.keep hX
  replace hBgvn := Nat.le_trans hBgvn hX.size
  replace ao0 := ao0.keep hX
  replace hB := nextW hB hX
  clear hb hX
  clear ao0
  go_wp2_with fail
  refine (markPointS_is Bx0r ps0.length 56 x0r _ 1 _ (ownsRow_keep x0o (by go_grown)) (Nat.le_trans hBx0rn (by go_size)) (by omega) (by omega)).mono ?_
  rintro e w10 ⟨he, gm, hgm, hbut, hgo, hrow⟩
  obtain ⟨K10, hK10⟩ : ∃ K : Int, K = 1 + ((ps0.length * 4 : Nat) : Int) := ⟨_, rfl⟩
  rw [← hK10] at he
  subst he
  have pK10 : 0 ≤ K10 ∧ K10 ≤ 200000000 := by omega
  have qK10 : 0 ≤ K10 := pK10.1
  have HK10 := Lib.hid hK10
  clear hK10
  have hU : But gm w9 w10 := But.trans (But.of_below (B := w9.heap.size) (by go_grown) (Nat.le_refl _)) hbut
  have hgo2 : x0r.ownBlock = some gm ∨ w9.heap.size ≤ gm := hgo.imp id (fun h => Nat.le_trans (by go_size) h)
  replace hv0 := hv0.keepO hU ox_0_x0r hgm
  replace kL := kL.keepU hU (fun x hx => Nat.ne_of_lt (Nat.lt_of_lt_of_le (fx_x0r x hx) hgm))
  replace sw := sw.keepM hU hgo2 sp_sv_x0r.symm
  replace hBsvn := Nat.le_trans hBsvn hU.size
  replace hBx0rn := Nat.le_trans hBx0rn hU.size
  replace gw := gw.keepM hU hgo2 sp_x0r_gv
  replace hBgvn := Nat.le_trans hBgvn hU.size
  replace hB := below_but hB hU (Nat.le_trans hw_x0r hgm)
  clear hU hgo hgo2 hbut hrow hgm x0o
  go_wp2_with fail
  refine (eqRatS_same l0 gv sv _ (gw.read.keep (by go_grown)) (sw.read.keep (by go_grown))).mono ?_
  rintro e w11 ⟨rfl, hb⟩
  have hX : Below w10.heap.size w10 w11 := nextX (by go_grown) hb
  replace hv0 := hv0.keep hX
  replace kL := kL.keep hX
  replace sw := sw.keep hX
  replace hBsvn := Nat.le_trans hBsvn hX.size
  replace hBx0rn := Nat.le_trans hBx0rn hX.size
  replace gw := gw.keep hX
  replace hBgvn := Nat.le_trans hBgvn hX.size
  replace hB := nextW hB hX
  clear hb hX
  have hln : l0.length ≤ 1048576 := befOf_len HL.out
  go_wp2_with fail
  refine (markRatS_is Bgv l0.length 37 gv _ 1 _ (ownsRow_keep gw (by go_grown)) (Nat.le_trans hBgvn (by go_size)) (by omega) (by omega)).mono ?_
  rintro e w12 ⟨he, gm, hgm, hbut, hgo, hrow⟩
  obtain ⟨K12, hK12⟩ : ∃ K : Int, K = 1 + ((l0.length * 2 : Nat) : Int) := ⟨_, rfl⟩
  rw [← hK12] at he
  subst he
  have pK12 : 0 ≤ K12 ∧ K12 ≤ 220000000 := by omega
  have qK12 : 0 ≤ K12 := pK12.1
  have HK12 := Lib.hid hK12
  clear hK12
  have hU : But gm w11 w12 := But.trans (But.of_below (B := w11.heap.size) (by go_grown) (Nat.le_refl _)) hbut
  have hgo2 : gv.ownBlock = some gm ∨ w11.heap.size ≤ gm := hgo.imp id (fun h => Nat.le_trans (by go_size) h)
  replace hv0 := hv0.keepO hU ox_0_gv hgm
  replace kL := kL.keepU hU (fun x hx => Nat.ne_of_lt (Nat.lt_of_lt_of_le (fx_gv x hx) hgm))
  replace sw := sw.keepM hU hgo2 sp_sv_gv.symm
  replace hBsvn := Nat.le_trans hBsvn hU.size
  replace hBx0rn := Nat.le_trans hBx0rn hU.size
  replace hBgvn := Nat.le_trans hBgvn hU.size
  replace hB := below_but hB hU (Nat.le_trans hw_gv hgm)
  have gm1 := hrow
  clear hU hgo hgo2 hbut hrow hgm gw
  go_wp2_with fail
  refine (heldRatS_is Bgv l0.length 37 gv 1 _ (ownsRow_keep gm1 (by go_grown)) (by omega) (by omega)).mono ?_
  rintro e w13 ⟨he, hb⟩
  rw [← HK12.out] at he
  subst he
  have hX : Below w12.heap.size w12 w13 := nextX (by go_grown) hb
  replace hv0 := hv0.keep hX
  replace kL := kL.keep hX
  replace sw := sw.keep hX
  replace hBsvn := Nat.le_trans hBsvn hX.size
  replace hBx0rn := Nat.le_trans hBx0rn hX.size
  replace hBgvn := Nat.le_trans hBgvn hX.size
  replace gm1 := ownsRow_keep gm1 hX
  replace hB := nextW hB hX
  clear hb hX
  go_wp2_with fail
  go_name_world W13 hW
  have hX : Below w13.heap.size w13 W13 := by rw [← hW]; go_grown
  replace hv0 := hv0.keep hX
  replace kL := kL.keep hX
  replace sw := sw.keep hX
  replace hBsvn := Nat.le_trans hBsvn hX.size
  replace hBx0rn := Nat.le_trans hBx0rn hX.size
  replace hBgvn := Nat.le_trans hBgvn hX.size
  replace gm1 := ownsRow_keep gm1 hX
  replace hB := nextW hB hX
  clear hW hX
  go_region_held3 (fun w' => w'.cell? ⟨w.heap.size, 0, none⟩ = some (.int .i64 n1) ∧ w'.cell? ⟨w.heap.size, 1, none⟩ = some (.int .i64 m1))
    ((refine Facts.keep kL ?_; go_grown; done))
    ((first
      | (go_at_call 11; (with_reducible refine (toPointS_any ps0 v0 _ (hv0.keep (by go_grown)) hn0).mono ?_); rintro e w14 ⟨hr0, rfl, ho0, hbw14⟩; have hsw14 : Below W13.heap.size W13 w14 := nextX (by go_grown) hbw14; have hXw14 : Below W13.heap.size W13 w14 := hsw14; have zw14 := hXw14.size)
      | (go_at_call 19; (with_reducible refine (toRat_any n1 m1 _).mono ?_); rintro e w15 ⟨rfl, hbw15⟩; have hsw15 : Below w14.heap.size w14 w15 := nextX (by go_grown) hbw15; have hXw15 : Below W13.heap.size W13 w15 := nextX hXw14 hsw15; have zw15 := hXw15.size)
      | (go_at_call 20; (with_reducible refine (iPointsBefore_is ps0 hr0 n1 m1 l0 t1 HL.out _ ((ho0.keep hsw15).read.keep (by go_grown)) hn0).mono ?_); rintro e w16 ⟨hv, rfl, hw, hbw16⟩; have hsw16 : Below w15.heap.size w15 w16 := nextX (by go_grown) hbw16; have hXw16 : Below W13.heap.size W13 w16 := nextX hXw15 hsw16; have zw16 := hXw16.size)))
  obtain ⟨Bhv, hBhv, hBhvn, hw⟩ : ∃ B, W13.heap.size ≤ B ∧ B ≤ w16.heap.size ∧ OwQ B 37 w16 hv l0 := ⟨_, by go_size, hbw16.size, hw⟩
  have sp_sv_hv : Sep sv hv := sep_rows sw hw hBhv
  have ox_0_hv : OldP Bhv v0 ps0 := hv0.oldP hBhv
  have fx_hv := kL.ltB hBhv
  have hw_hv : w.heap.size ≤ Bhv := Nat.le_trans hB.size hBhv
  replace hv0 := hv0.keep hXw16
  replace kL := kL.keep hXw16
  replace sw := sw.keep hXw16
  replace hBsvn := Nat.le_trans hBsvn hXw16.size
  replace hBx0rn := Nat.le_trans hBx0rn hXw16.size
  replace hBgvn := Nat.le_trans hBgvn hXw16.size
  replace gm1 := ownsRow_keep gm1 hXw16
  replace hB := nextW hB hXw16
  clear hbw14 hsw14 hXw14 hbw15 hsw15 hXw15 hbw16 hsw16 hXw16
  go_wp2_with fail
  go_wp2_with fail
  refine (eqRatS_same l0 hv sv _ (hw.read.keep (by go_grown)) (sw.read.keep (by go_grown))).mono ?_
  rintro e w17 ⟨rfl, hb⟩
  have hX : Below w16.heap.size w16 w17 := nextX (by go_grown) hb
  replace hv0 := hv0.keep hX
  replace kL := kL.keep hX
  replace sw := sw.keep hX
  replace hBsvn := Nat.le_trans hBsvn hX.size
  replace hBx0rn := Nat.le_trans hBx0rn hX.size
  replace hBgvn := Nat.le_trans hBgvn hX.size
  replace gm1 := ownsRow_keep gm1 hX
  replace hw := hw.keep hX
  replace hBhvn := Nat.le_trans hBhvn hX.size
  replace hB := nextW hB hX
  clear hb hX
  go_wp2_with fail
  refine (heldRatS_is Bgv l0.length 37 gv 1 _ (ownsRow_keep gm1 (by go_grown)) (by omega) (by omega)).mono ?_
  rintro e w18 ⟨he, hb⟩
  rw [← HK12.out] at he
  subst he
  have hX : Below w17.heap.size w17 w18 := nextX (by go_grown) hb
  replace hv0 := hv0.keep hX
  replace kL := kL.keep hX
  replace sw := sw.keep hX
  replace hBsvn := Nat.le_trans hBsvn hX.size
  replace hBx0rn := Nat.le_trans hBx0rn hX.size
  replace hBgvn := Nat.le_trans hBgvn hX.size
  replace gm1 := ownsRow_keep gm1 hX
  replace hw := hw.keep hX
  replace hBhvn := Nat.le_trans hBhvn hX.size
  replace hB := nextW hB hX
  clear hb hX
  go_wp2_with fail
  go_ret
  exact ⟨rfl, hB⟩

set_option maxRecDepth 100000 in
theorem lifted (os : Os) (started : os.Started) (H : Type) (enc : TypeId × Value → H) :
    ReturnsInHanded {} Try.checked os 4 .any (Rows.fnExactPointsBeforeSpec.pre6 enc Try.prog Try.f4 Rows.fnExactPointsBeforeRow.domain false) (Rows.fnExactPointsBeforeSpec.post enc Try.prog Try.f4 false true false false) := by
  refine returnsInHanded_of_change (C := Try.checked) Try.own started (by kernel_rfl) Try.func4
    (ChangeSpec.witness6 (enc := enc) (C := Try.checked) false ⟨#[], #[.slice none 0 0, .agg #[.int .i64 0, .int .i64 1]], []⟩ 8 (by kernel_rfl) (by kernel_rfl) (by kernel_rfl) (by kernel_rfl)) ?_
  intro W base args ds gs before hval0 hW hcnd _
  have hval : ∀ (j : Nat) t v, Try.f4.params[j]? = some t → args[j]? = some v → Value.okWide Try.prog W .any base t v := hval0
  have hW' := hW
  obtain ⟨p, q, hA0, hV, rfl, hfz, hnd⟩ := hW
  have hA : DataW.TrodAll enc Try.prog W 0 (fun _ => true) true Try.f4.params.toList args.toList ds p := hA0
  rw [Try.params4] at hA hval
  obtain ⟨v0, v1, d0, d1, p0, p1, rfl, rfl, rfl, h0, h1⟩ := trodAll_two hA
  obtain ⟨ps0, hp0⟩ := open_pts (hval 0 22 v0 rfl rfl) h0
  obtain ⟨n1, m1, rfl, bn1, bm1⟩ := open_rat (hval 1 35 v1 rfl rfl) h1
  refine (walk ps0 v0 n1 m1 _ _ W hp0 rfl).mono fun e W' ⟨he, hb⟩ => ?_
  subst he
  exact ⟨_, rfl, law_close Try.laidOut (by kernel_rfl) (by kernel_rfl) Try.underlying4 rfl hW' (fun h => by rfl) hb⟩

set_option maxHeartbeats 800000 in
theorem joined : joinedFacts Try.pinned.checked.prog 4 Try.f4 Rows.fnExactPointsBeforeSpec Rows.fnExactPointsBeforeRow = true := by
  delta joinedFacts
  with_reducible repeat' apply and_yes
  all_goals first
    | (with_reducible exact headEnter)
    | (with_reducible refine beq_of headFinal ?_; as_aux_lemma => kernel_rfl)
    | (with_reducible refine beq_of' headMake ?_; as_aux_lemma => kernel_rfl)
    | (as_aux_lemma => kernel_rfl)

theorem proved : Rows.FnExactPointsBeforeSaid :=
  OpenClaim.holds_of_wide 4 Try.f4 rfl rfl rfl rfl rfl rfl rfl ⟨rfl, rfl, rfl, rfl, rfl⟩ rfl rfl rfl rfl rfl (by kernel_rfl) Try.func4 joined
    (of_decide_eq_true (by kernel_rfl)) (by unfold Func.isWrapper; first | (rw [if_pos (by decide +kernel)]; kernel_rfl) | (rw [if_neg (by decide +kernel)]; exact ⟨rfl, rfl⟩))
    (fun os started H enc _ => lifted os started H enc)

end Go.Proofs.Ytkaekjhcphgldaa.lawPointsBefore
