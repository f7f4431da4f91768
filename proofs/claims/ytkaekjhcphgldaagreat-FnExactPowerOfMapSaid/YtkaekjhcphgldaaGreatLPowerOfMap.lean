/- Proved: for all arguments, the program's PowerOfMap returns what the reference's returns, and the arguments read afterwards as they did. No condition. -/
import Derived.Test.YtkaekjhcphgldaaGreatHead
import Derived.Test.YtkaekjhcphgldaaGreatPowS
import Derived.Test.YtkaekjhcphgldaaGreatMarks
namespace Go.Proofs.YtkaekjhcphgldaaGreat.lawPowerOfMap
open Go.Proofs.YtkaekjhcphgldaaGreat
open Go.ChangeShapes Go.WideShapes Go.ChangeAt Go.RowKit Go.Joins

attribute [local go_sem ↓] Go.wp_at_zero Go.wp_at_succ

set_option maxHeartbeats 3200000 in
theorem walk (ps0 : List Pt) (v0 : Value) (x1 : Int) (l0 : List Pt) (t1 : Bool) (w : World) (hv0 : RdP w v0 ps0) (_bx1 : -9223372036854775808 ≤ x1 ∧ x1 ≤ 9223372036854775807) (hl : powerQ ps0 x1 = (l0, t1)) :
    Calls Tryz.prog 7 #[v0, .int .i64 x1] w fun e w' => e = .returned (.bool true) ∧ Below w.heap.size w w' := by
  have HL := Lib.hid hl
  clear hl
  by_cases hf0 : ps0.length ≤ 1048576
  rotate_left
  · go_enter Tryz.func7, Tryz.ntmps7
    go_wp2_with fail
    refine (szPointS_over ps0 v0 1048576 _ (hv0.keep (by go_grown)) (by omega) (by omega) (by omega)).mono ?_
    rintro e w0 ⟨rfl, h0⟩
    subst w0
    go_wp2_with fail
    go_ret
    exact ⟨rfl, by go_grown⟩
  have hn0 : ps0.length ≤ 1048576 := by omega
  go_enter Tryz.func7, Tryz.ntmps7
  go_wp2_with fail
  refine (szPointS_fits ps0 v0 1048576 _ (hv0.keep (by go_grown)) (by omega) (by omega)).mono ?_
  rintro e w0 ⟨rfl, h0⟩
  subst w0
  go_wp2_with fail
  refine (toPointS_any ps0 v0 _ (hv0.keep (by go_grown)) hn0).mono ?_
  rintro e w1 ⟨sr0, rfl, so0, hb⟩
  have hX : Below w.heap.size w w1 := nextX (by go_grown) hb
  replace hv0 := hv0.keep hX
  have hB : Below w.heap.size w w1 := hX
  clear hb hX
  go_wp2_with fail
  refine (sPowerOfMap_is ps0 sr0 x1 l0 t1 HL.out _ (so0.read.keep (by go_grown)) hn0).mono ?_
  rintro e w2 ⟨sv, rfl, sw, hb⟩
  have hX : Below w1.heap.size w1 w2 := nextX (by go_grown) hb
  clear so0
  obtain ⟨Bsv, hBsv, hBsvn, sw⟩ : ∃ B, w1.heap.size ≤ B ∧ B ≤ w2.heap.size ∧ OwP B 48 w2 sv l0 := ⟨_, by go_size, hb.size, sw⟩
  have ox_0_sv : OldP Bsv v0 ps0 := hv0.oldP hBsv
  have hw_sv : w.heap.size ≤ Bsv := Nat.le_trans hB.size hBsv
  replace hv0 := hv0.keep hX
  replace hB := nextW hB hX
  clear hb hX
  go_wp2_with fail
  refine (toPointS_any ps0 v0 _ (hv0.keep (by go_grown)) hn0).mono ?_
  rintro e w3 ⟨x0r, rfl, x0o, hb⟩
  have hX : Below w2.heap.size w2 w3 := nextX (by go_grown) hb
  obtain ⟨Bx0r, hBx0r, hBx0rn, x0o⟩ : ∃ B, w2.heap.size ≤ B ∧ B ≤ w3.heap.size ∧ OwP B 48 w3 x0r ps0 := ⟨_, by go_size, hb.size, x0o⟩
  have sp_sv_x0r : Sep sv x0r := sep_rows sw x0o hBx0r
  have ox_0_x0r : OldP Bx0r v0 ps0 := hv0.oldP hBx0r
  have hw_x0r : w.heap.size ≤ Bx0r := Nat.le_trans hB.size hBx0r
  replace hv0 := hv0.keep hX
  replace sw := sw.keep hX
  replace hBsvn := Nat.le_trans hBsvn hX.size
  replace hB := nextW hB hX
  clear hb hX
  go_wp2_with fail
  refine (iPowerOfMap_is ps0 x0r x1 l0 t1 HL.out _ (x0o.read.keep (by go_grown)) hn0).mono ?_
  rintro e w4 ⟨gv, rfl, gw, hb⟩
  have hX : Below w3.heap.size w3 w4 := nextX (by go_grown) hb
  obtain ⟨Bgv, hBgv, hBgvn, gw⟩ : ∃ B, w3.heap.size ≤ B ∧ B ≤ w4.heap.size ∧ OwP B 48 w4 gv l0 := ⟨_, by go_size, hb.size, gw⟩
  have sp_sv_gv : Sep sv gv := sep_rows sw gw hBgv
  have sp_x0r_gv : Sep x0r gv := sep_rows x0o gw hBgv
  have ox_0_gv : OldP Bgv v0 ps0 := hv0.oldP hBgv
  have hw_gv : w.heap.size ≤ Bgv := Nat.le_trans hB.size hBgv
  replace hv0 := hv0.keep hX
  replace sw := sw.keep hX
  replace hBsvn := Nat.le_trans hBsvn hX.size
  replace x0o := x0o.keep hX
  replace hBx0rn := Nat.le_trans hBx0rn hX.size
  replace hB := nextW hB hX
  clear hb hX
  go_wp2_with fail
  refine (eqPointS_same l0 gv sv _ (gw.read.keep (by go_grown)) (sw.read.keep (by go_grown))).mono ?_
  rintro e w5 ⟨rfl, hb⟩
  have hX : Below w4.heap.size w4 w5 := nextX (by go_grown) hb
  replace hv0 := hv0.keep hX
  replace sw := sw.keep hX
  replace hBsvn := Nat.le_trans hBsvn hX.size
  replace x0o := x0o.keep hX
  replace hBx0rn := Nat.le_trans hBx0rn hX.size
  replace gw := gw.keep hX
  replace hBgvn := Nat.le_trans hBgvn hX.size
  replace hB := nextW hB hX
  clear hb hX
  go_wp2_with fail
  refine (toPointS_any ps0 v0 _ (hv0.keep (by go_grown)) hn0).mono ?_
  rintro e w6 ⟨ar0, rfl, ao0, hb⟩
  have hX : Below w5.heap.size w5 w6 := nextX (by go_grown) hb
  replace hv0 := hv0.keep hX
  replace sw := sw.keep hX
  replace hBsvn := Nat.le_trans hBsvn hX.size
  replace x0o := x0o.keep hX
  replace hBx0rn := Nat.le_trans hBx0rn hX.size
  replace gw := gw.keep hX
  replace hBgvn := Nat.le_trans hBgvn hX.size
  replace hB := nextW hB hX
  clear hb hX
  go_wp2_with fail
  refine (eqPointS_same ps0 x0r ar0 _ (x0o.read.keep (by go_grown)) (ao0.read.keep (by go_grown))).mono ?_
  rintro e w7 ⟨rfl, hb⟩
  have hX : Below w6.heap.size w6 w7 := nextX (by go_grown) hb
  replace hv0 := hv0.keep hX
  replace sw := sw.keep hX
  replace hBsvn := Nat.le_trans hBsvn hX.size
  replace x0o := x0o.keep hX
  replace hBx0rn := Nat.le_trans hBx0rn hX.size
  replace gw := gw.keep hX
  replace hBgvn := Nat.le_trans hBgvn hX.size
  replace ao0 := ao0.keep hX
  replace hB := nextW hB hX
  clear hb hX
  clear ao0
  go_wp2_with fail
  refine (markPointS_is Bx0r ps0.length 48 x0r _ 1 _ (ownsRow_keep x0o (by go_grown)) (Nat.le_trans hBx0rn (by go_size)) (by omega) (by omega)).mono ?_
  rintro e w8 ⟨he, gm, hgm, hbut, hgo, hrow⟩
  obtain ⟨K8, hK8⟩ : ∃ K : Int, K = 1 + ((ps0.length * 4 : Nat) : Int) := ⟨_, rfl⟩
  rw [← hK8] at he
  subst he
  have pK8 : 0 ≤ K8 ∧ K8 ≤ 180000000 := by omega
  have qK8 : 0 ≤ K8 := pK8.1
  have HK8 := Lib.hid hK8
  clear hK8
  have hU : But gm w7 w8 := But.trans (But.of_below (B := w7.heap.size) (by go_grown) (Nat.le_refl _)) hbut
  have hgo2 : x0r.ownBlock = some gm ∨ w7.heap.size ≤ gm := hgo.imp id (fun h => Nat.le_trans (by go_size) h)
  replace hv0 := hv0.keepO hU ox_0_x0r hgm
  replace sw := sw.keepM hU hgo2 sp_sv_x0r.symm
  replace hBsvn := Nat.le_trans hBsvn hU.size
  replace hBx0rn := Nat.le_trans hBx0rn hU.size
  replace gw := gw.keepM hU hgo2 sp_x0r_gv
  replace hBgvn := Nat.le_trans hBgvn hU.size
  replace hB := below_but hB hU (Nat.le_trans hw_x0r hgm)
  clear hU hgo hgo2 hbut hrow hgm x0o
  go_wp2_with fail
  refine (eqPointS_same l0 gv sv _ (gw.read.keep (by go_grown)) (sw.read.keep (by go_grown))).mono ?_
  rintro e w9 ⟨rfl, hb⟩
  have hX : Below w8.heap.size w8 w9 := nextX (by go_grown) hb
  replace hv0 := hv0.keep hX
  replace sw := sw.keep hX
  replace hBsvn := Nat.le_trans hBsvn hX.size
  replace hBx0rn := Nat.le_trans hBx0rn hX.size
  replace gw := gw.keep hX
  replace hBgvn := Nat.le_trans hBgvn hX.size
  replace hB := nextW hB hX
  clear hb hX
  have hln : l0.length ≤ 1048576 := powerQ_len HL.out
  go_wp2_with fail
  refine (markPointS_is Bgv l0.length 48 gv _ 1 _ (ownsRow_keep gw (by go_grown)) (Nat.le_trans hBgvn (by go_size)) (by omega) (by omega)).mono ?_
  rintro e w10 ⟨he, gm, hgm, hbut, hgo, hrow⟩
  obtain ⟨K10, hK10⟩ : ∃ K : Int, K = 1 + ((l0.length * 4 : Nat) : Int) := ⟨_, rfl⟩
  rw [← hK10] at he
  subst he
  have pK10 : 0 ≤ K10 ∧ K10 ≤ 200000000 := by omega
  have qK10 : 0 ≤ K10 := pK10.1
  have HK10 := Lib.hid hK10
  clear hK10
  have hU : But gm w9 w10 := But.trans (But.of_below (B := w9.heap.size) (by go_grown) (Nat.le_refl _)) hbut
  have hgo2 : gv.ownBlock = some gm ∨ w9.heap.size ≤ gm := hgo.imp id (fun h => Nat.le_trans (by go_size) h)
  replace hv0 := hv0.keepO hU ox_0_gv hgm
  replace sw := sw.keepM hU hgo2 sp_sv_gv.symm
  replace hBsvn := Nat.le_trans hBsvn hU.size
  replace hBx0rn := Nat.le_trans hBx0rn hU.size
  replace hBgvn := Nat.le_trans hBgvn hU.size
  replace hB := below_but hB hU (Nat.le_trans hw_gv hgm)
  have gm1 := hrow
  clear hU hgo hgo2 hbut hrow hgm gw
  go_wp2_with fail
  refine (heldPointS_is Bgv l0.length 48 gv 1 _ (ownsRow_keep gm1 (by go_grown)) (by omega) (by omega)).mono ?_
  rintro e w11 ⟨he, hb⟩
  rw [← HK10.out] at he
  subst he
  have hX : Below w10.heap.size w10 w11 := nextX (by go_grown) hb
  replace hv0 := hv0.keep hX
  replace sw := sw.keep hX
  replace hBsvn := Nat.le_trans hBsvn hX.size
  replace hBx0rn := Nat.le_trans hBx0rn hX.size
  replace hBgvn := Nat.le_trans hBgvn hX.size
  replace gm1 := ownsRow_keep gm1 hX
  replace hB := nextW hB hX
  clear hb hX
  go_wp2_with fail
  refine (toPointS_any ps0 v0 _ (hv0.keep (by go_grown)) hn0).mono ?_
  rintro e w12 ⟨hr0, rfl, ho0, hb⟩
  have hX : Below w11.heap.size w11 w12 := nextX (by go_grown) hb
  replace hv0 := hv0.keep hX
  replace sw := sw.keep hX
  replace hBsvn := Nat.le_trans hBsvn hX.size
  replace hBx0rn := Nat.le_trans hBx0rn hX.size
  replace hBgvn := Nat.le_trans hBgvn hX.size
  replace gm1 := ownsRow_keep gm1 hX
  replace hB := nextW hB hX
  clear hb hX
  go_wp2_with fail
  refine (iPowerOfMap_is ps0 hr0 x1 l0 t1 HL.out _ (ho0.read.keep (by go_grown)) hn0).mono ?_
  rintro e w13 ⟨hv, rfl, hw, hb⟩
  have hX : Below w12.heap.size w12 w13 := nextX (by go_grown) hb
  clear ho0
  obtain ⟨Bhv, hBhv, hBhvn, hw⟩ : ∃ B, w12.heap.size ≤ B ∧ B ≤ w13.heap.size ∧ OwP B 48 w13 hv l0 := ⟨_, by go_size, hb.size, hw⟩
  have sp_sv_hv : Sep sv hv := sep_rows sw hw hBhv
  have ox_0_hv : OldP Bhv v0 ps0 := hv0.oldP hBhv
  have hw_hv : w.heap.size ≤ Bhv := Nat.le_trans hB.size hBhv
  replace hv0 := hv0.keep hX
  replace sw := sw.keep hX
  replace hBsvn := Nat.le_trans hBsvn hX.size
  replace hBx0rn := Nat.le_trans hBx0rn hX.size
  replace hBgvn := Nat.le_trans hBgvn hX.size
  replace gm1 := ownsRow_keep gm1 hX
  replace hB := nextW hB hX
  clear hb hX
  go_wp2_with fail
  refine (eqPointS_same l0 hv sv _ (hw.read.keep (by go_grown)) (sw.read.keep (by go_grown))).mono ?_
  rintro e w14 ⟨rfl, hb⟩
  have hX : Below w13.heap.size w13 w14 := nextX (by go_grown) hb
  replace hv0 := hv0.keep hX
  replace sw := sw.keep hX
  replace hBsvn := Nat.le_trans hBsvn hX.size
  replace hBx0rn := Nat.le_trans hBx0rn hX.size
  replace hBgvn := Nat.le_trans hBgvn hX.size
  replace gm1 := ownsRow_keep gm1 hX
  replace hw := hw.keep hX
  replace hBhvn := Nat.le_trans hBhvn hX.size
  replace hB := nextW hB hX
  clear hb hX
  go_wp2_with fail
  refine (heldPointS_is Bgv l0.length 48 gv 1 _ (ownsRow_keep gm1 (by go_grown)) (by omega) (by omega)).mono ?_
  rintro e w15 ⟨he, hb⟩
  rw [← HK10.out] at he
  subst he
  have hX : Below w14.heap.size w14 w15 := nextX (by go_grown) hb
  replace hv0 := hv0.keep hX
  replace sw := sw.keep hX
  replace hBsvn := Nat.le_trans hBsvn hX.size
  replace hBx0rn := Nat.le_trans hBx0rn hX.size
  replace hBgvn := Nat.le_trans hBgvn hX.size
  replace gm1 := ownsRow_keep gm1 hX
  replace hw := hw.keep hX
  replace hBhvn := Nat.le_trans hBhvn hX.size
  replace hB := nextW hB hX
  clear hb hX
  go_wp2_with fail
  go_ret
  exact ⟨rfl, hB⟩

set_option maxRecDepth 100000 in
theorem lifted (os : Os) (started : os.Started) (H : Type) (enc : TypeId × Value → H) :
    ReturnsInHanded {} Tryz.checked os 7 .any (Rows.fnExactPowerOfMapSpec.pre6 enc Tryz.prog Tryz.f7 Rows.fnExactPowerOfMapRow.domain false) (Rows.fnExactPowerOfMapSpec.post enc Tryz.prog Tryz.f7 false true false false) := by
  refine returnsInHanded_of_change (C := Tryz.checked) Tryz.own started (by kernel_rfl) Tryz.func7
    (ChangeSpec.witness6 (enc := enc) (C := Tryz.checked) false ⟨#[], #[.slice none 0 0, .int .i64 0], []⟩ 8 (by kernel_rfl) (by kernel_rfl) (by kernel_rfl) (by kernel_rfl)) ?_
  intro W base args ds gs before hval0 hW hcnd _
  have hval : ∀ (j : Nat) t v, Tryz.f7.params[j]? = some t → args[j]? = some v → Value.okWide Tryz.prog W .any base t v := hval0
  have hW' := hW
  obtain ⟨p, q, hA0, hV, rfl, hfz, hnd⟩ := hW
  have hA : DataW.TrodAll enc Tryz.prog W 0 (fun _ => true) true Tryz.f7.params.toList args.toList ds p := hA0
  rw [Tryz.params7] at hA hval
  obtain ⟨v0, v1, d0, d1, p0, p1, rfl, rfl, rfl, h0, h1⟩ := trodAll_two hA
  obtain ⟨ps0, hp0⟩ := open_pts (hval 0 22 v0 rfl rfl) h0
  obtain ⟨x1, rfl, bx1⟩ := open_whole (hval 1 3 v1 rfl rfl) h1
  refine (walk ps0 v0 x1 _ _ W hp0 bx1 rfl).mono fun e W' ⟨he, hb⟩ => ?_
  subst he
  exact ⟨_, rfl, law_close Tryz.laidOut (by kernel_rfl) (by kernel_rfl) Tryz.underlying4 rfl hW' (fun h => by rfl) hb⟩

set_option maxHeartbeats 800000 in
theorem joined : joinedFacts Tryz.pinned.checked.prog 7 Tryz.f7 Rows.fnExactPowerOfMapSpec Rows.fnExactPowerOfMapRow = true := by
  delta joinedFacts
  with_reducible repeat' apply and_yes
  all_goals first
    | (with_reducible exact headEnter)
    | (with_reducible refine beq_of headFinal ?_; as_aux_lemma => kernel_rfl)
    | (with_reducible refine beq_of' headMake ?_; as_aux_lemma => kernel_rfl)
    | (as_aux_lemma => kernel_rfl)

theorem proved : Rows.FnExactPowerOfMapSaid :=
  OpenClaim.holds_of_wide 7 Tryz.f7 rfl rfl rfl rfl rfl rfl rfl ⟨rfl, rfl, rfl, rfl, rfl⟩ rfl rfl rfl rfl rfl (by kernel_rfl) Tryz.func7 joined
    (of_decide_eq_true (by kernel_rfl)) (by unfold Func.isWrapper; first | (rw [if_pos (by decide +kernel)]; kernel_rfl) | (rw [if_neg (by decide +kernel)]; exact ⟨rfl, rfl⟩))
    (fun os started H enc _ => lifted os started H enc)

end Go.Proofs.YtkaekjhcphgldaaGreat.lawPowerOfMap
