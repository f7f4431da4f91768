/- Proved: for all arguments, the program's LapsOf returns what the reference's returns, and the arguments read afterwards as they did. No condition. -/
import Derived.Test.YtkdhhopfefhdjaaHead
import Derived.Test.YtkdhhopfefhdjaaLapC
import Derived.Test.YtkdhhopfefhdjaaMarks
namespace Go.Proofs.Ytkdhhopfefhdjaa.lawLapsOf
open Go.Proofs.Ytkdhhopfefhdjaa
open Go.ChangeShapes Go.WideShapes Go.ChangeAt Go.RowKit Go.Joins

attribute [local go_sem ↓] Go.wp_at_zero Go.wp_at_succ

set_option maxHeartbeats 3200000 in
theorem walk (ps0 : List Pt) (v0 : Value) (l0 : List Row3) (t1 : Bool) (w : World) (hv0 : RdP w v0 ps0) (hl : lapsOfQ ps0 = (l0, t1)) :
    Calls Try.prog 15 #[v0] w fun e w' => e = .returned (.bool true) ∧ Below w.heap.size w w' := by
  have HL := Lib.hid hl
  have HV := Lib.hid hv0
  have hln : l0.length ≤ 1048576 := lapsOfQ_len hl
  clear hl
  by_cases hf0 : ps0.length ≤ 1048576
  rotate_left
  · go_enter Try.func15, Try.ntmps15
    go_wp2_with fail
    refine (szPointS_over ps0 v0 1048576 _ (hv0.keep (by go_grown)) (by omega) (by omega) (by omega)).mono ?_
    rintro e w0 ⟨rfl, h0⟩
    subst w0
    go_wp2_with fail
    go_ret
    exact ⟨rfl, by go_grown⟩
  have hn0 : ps0.length ≤ 1048576 := hf0
  go_enter Try.func15, Try.ntmps15
  go_wp2_with fail
  refine (szPointS_fits ps0 v0 1048576 _ (hv0.keep (by go_grown)) (by omega) (by omega)).mono ?_
  rintro e w0 ⟨rfl, h0⟩
  subst w0
  clear hv0
  go_wp2_with fail
  refine (toPointS_any ps0 v0 _ (HV.out.keep (by go_grown)) hn0).mono ?_
  rintro e w1 ⟨sr0, rfl, so0, hb⟩
  have hX : Below w.heap.size w w1 := nextX (by go_grown) hb
  have hB : Below w.heap.size w w1 := hX
  clear hb hX
  go_wp2_with fail
  refine (sLapsOf_is ps0 sr0 l0 t1 HL.out _ (so0.read.keep (by go_grown)) hn0).mono ?_
  rintro e w2 ⟨sv, rfl, sw, hb⟩
  have hX : Below w1.heap.size w1 w2 := nextX (by go_grown) hb
  replace so0 := so0.keep hX
  replace hB := nextW hB hX
  clear hb hX
  clear so0
  have SW := Lib.hid sw
  clear sw
  have hBs : Below w2.heap.size w2 w2 := Below.refl _ _
  have hw2 := hB.size
  go_wp2_with fail
  refine (toPointS_any ps0 v0 _ (HV.out.keep (nextW hB (by go_grown))) hn0).mono ?_
  rintro e w3 ⟨x0r, rfl, x0o, hb⟩
  have hX : Below w2.heap.size w2 w3 := nextX (by go_grown) hb
  obtain ⟨Bx, hBx, hBxn, x0o⟩ : ∃ B, w2.heap.size ≤ B ∧ B ≤ w3.heap.size ∧ OwP B 70 w3 x0r ps0 := ⟨_, by go_size, hb.size, x0o⟩
  replace hBs := nextW hBs hX
  replace hB := nextW hB hX
  clear hb hX
  go_wp2_with fail
  refine (iLapsOf_is ps0 x0r l0 t1 HL.out _ (x0o.read.keep (by go_grown)) hn0).mono ?_
  rintro e w4 ⟨gv, rfl, gw, hb⟩
  have hX : Below w3.heap.size w3 w4 := nextX (by go_grown) hb
  obtain ⟨Bg, hBg, gw⟩ : ∃ B, w3.heap.size ≤ B ∧ OwL B w4 gv l0 := ⟨_, by go_size, gw⟩
  have xlt : ∀ b, x0r.ownBlock = some b → b < Bg := fun b hb => Nat.lt_of_lt_of_le (World.ownsRow.lt x0o b hb).2 hBg
  have h2g : w2.heap.size ≤ Bg := Nat.le_trans hBs.size hBg
  replace hBs := nextW hBs hX
  replace x0o := x0o.keep hX
  replace hBxn := Nat.le_trans hBxn hX.size
  replace hB := nextW hB hX
  clear hb hX
  go_wp2_with fail
  refine (eqIntSS_same _ _ gv sv l0 _ (gw.keep (by go_grown)) ((SW.out.keep hBs).keep (by go_grown))).mono ?_
  rintro e w5 ⟨rfl, hb⟩
  have hX : Below w4.heap.size w4 w5 := nextX (by go_grown) hb
  replace hBs := nextW hBs hX
  replace x0o := x0o.keep hX
  replace hBxn := Nat.le_trans hBxn hX.size
  replace gw := gw.keep hX
  replace hB := nextW hB hX
  clear hb hX
  go_wp2_with fail
  refine (toPointS_any ps0 v0 _ (HV.out.keep (nextW hB (by go_grown))) hn0).mono ?_
  rintro e w6 ⟨ar0, rfl, ao0, hb⟩
  have hX : Below w5.heap.size w5 w6 := nextX (by go_grown) hb
  replace hBs := nextW hBs hX
  replace x0o := x0o.keep hX
  replace hBxn := Nat.le_trans hBxn hX.size
  replace gw := gw.keep hX
  replace hB := nextW hB hX
  clear hb hX
  go_wp2_with fail
  refine (eqPointS_same ps0 x0r ar0 _ (x0o.read.keep (by go_grown)) (ao0.read.keep (by go_grown))).mono ?_
  rintro e w7 ⟨rfl, hb⟩
  have hX : Below w6.heap.size w6 w7 := nextX (by go_grown) hb
  replace hBs := nextW hBs hX
  replace x0o := x0o.keep hX
  replace hBxn := Nat.le_trans hBxn hX.size
  replace gw := gw.keep hX
  replace ao0 := ao0.keep hX
  replace hB := nextW hB hX
  clear hb hX
  clear ao0
  go_wp2_with fail
  refine (markPointS_is Bx ps0.length 70 x0r _ 1 _ (ownsRow_keep x0o (by go_grown)) (Nat.le_trans hBxn (by go_size)) (by omega) (by omega)).mono ?_
  rintro e w8 ⟨he, gm, hgm, hbut, hgo, -⟩
  obtain ⟨K8, hK8⟩ : ∃ K : Int, K = 1 + ((ps0.length * 4 : Nat) : Int) := ⟨_, rfl⟩
  rw [← hK8] at he
  subst he
  have qK8 : 0 ≤ K8 := by omega
  clear hK8
  have hU : But gm w7 w8 := But.trans (But.of_below (B := w7.heap.size) (by go_grown) (Nat.le_refl _)) hbut
  have hgo2 : x0r.ownBlock = some gm ∨ w7.heap.size ≤ gm := hgo.imp id (fun h => Nat.le_trans (by go_size) h)
  replace gw := gw.keepBut hU (hgo2.imp (xlt gm) id)
  replace hBs := below_but hBs hU (Nat.le_trans hBx hgm)
  replace hB := below_but hB hU (Nat.le_trans (Nat.le_trans hw2 hBx) hgm)
  clear hU hgo hgo2 hbut hgm x0o hBxn xlt
  go_wp2_with fail
  refine (eqIntSS_same _ _ gv sv l0 _ (gw.keep (by go_grown)) ((SW.out.keep hBs).keep (by go_grown))).mono ?_
  rintro e w9 ⟨rfl, hb⟩
  have hX : Below w8.heap.size w8 w9 := nextX (by go_grown) hb
  replace hBs := nextW hBs hX
  replace gw := gw.keep hX
  replace hB := nextW hB hX
  clear hb hX
  go_wp2_with fail
  refine (markIntSS_is Bg gv l0 1 _ (gw.keep (by go_grown)) (by omega) hln).mono ?_
  rintro e w10 ⟨he, ow, hbel⟩
  obtain ⟨K, hK⟩ : ∃ K : Int, K = 1 + 3 * (l0.length : Int) := ⟨_, rfl⟩
  rw [← hK] at he
  subst he
  have qK : 0 ≤ K := by omega
  have HK := Lib.hid hK
  clear hK
  have hU : Below Bg w9 w10 := Below.trans (by go_grown) hbel
  replace hBs := Below.trans hBs (hU.mono h2g)
  replace hB := Below.trans hB (hU.mono (Nat.le_trans hw2 h2g))
  clear gw hU hbel
  have gw := ow
  clear ow
  go_wp2_with fail
  refine (heldIntSS_is Bg gv l0.length 1 _ (gw.keep (by go_grown)) (by omega) hln).mono ?_
  rintro e w11 ⟨he, hb⟩
  have hX : Below w10.heap.size w10 w11 := nextX (by go_grown) hb
  rw [← HK.out] at he
  subst he
  replace hBs := nextW hBs hX
  replace gw := gw.keep hX
  replace hB := nextW hB hX
  clear hb hX
  go_wp2_with fail
  refine (toPointS_any ps0 v0 _ (HV.out.keep (nextW hB (by go_grown))) hn0).mono ?_
  rintro e w12 ⟨hr0, rfl, ho0, hb⟩
  have hX : Below w11.heap.size w11 w12 := nextX (by go_grown) hb
  replace hBs := nextW hBs hX
  replace gw := gw.keep hX
  replace hB := nextW hB hX
  clear hb hX
  go_wp2_with fail
  refine (iLapsOf_is ps0 hr0 l0 t1 HL.out _ (ho0.read.keep (by go_grown)) hn0).mono ?_
  rintro e w13 ⟨hv, rfl, hw, hb⟩
  have hX : Below w12.heap.size w12 w13 := nextX (by go_grown) hb
  replace hBs := nextW hBs hX
  replace gw := gw.keep hX
  replace ho0 := ho0.keep hX
  replace hB := nextW hB hX
  clear hb hX
  clear ho0
  go_wp2_with fail
  refine (eqIntSS_same _ _ hv sv l0 _ (hw.keep (by go_grown)) ((SW.out.keep hBs).keep (by go_grown))).mono ?_
  rintro e w14 ⟨rfl, hb⟩
  have hX : Below w13.heap.size w13 w14 := nextX (by go_grown) hb
  replace hBs := nextW hBs hX
  replace gw := gw.keep hX
  replace hw := hw.keep hX
  replace hB := nextW hB hX
  clear hb hX
  clear hw
  go_wp2_with fail
  refine (heldIntSS_is Bg gv l0.length 1 _ (gw.keep (by go_grown)) (by omega) hln).mono ?_
  rintro e w15 ⟨he, hb⟩
  have hX : Below w14.heap.size w14 w15 := nextX (by go_grown) hb
  rw [← HK.out] at he
  subst he
  replace hBs := nextW hBs hX
  replace gw := gw.keep hX
  replace hB := nextW hB hX
  clear hb hX
  go_wp2_with fail
  go_ret
  exact ⟨rfl, hB⟩

set_option maxRecDepth 100000 in
theorem lifted (os : Os) (started : os.Started) (H : Type) (enc : TypeId × Value → H) :
    ReturnsInHanded {} Try.checked os 15 .any (Rows.fnExactLapsOfSpec.pre6 enc Try.prog Try.f15 Rows.fnExactLapsOfRow.domain false) (Rows.fnExactLapsOfSpec.post enc Try.prog Try.f15 false true false false) := by
  refine returnsInHanded_of_change (C := Try.checked) Try.own started (by kernel_rfl) Try.func15
    (ChangeSpec.witness6 (enc := enc) (C := Try.checked) false ⟨#[], #[.slice none 0 0], []⟩ 8 (by kernel_rfl) (by kernel_rfl) (by kernel_rfl) (by kernel_rfl)) ?_
  intro W base args ds gs before hval0 hW hcnd _
  have hval : ∀ (j : Nat) t v, Try.f15.params[j]? = some t → args[j]? = some v → Value.okWide Try.prog W .any base t v := hval0
  have hW' := hW
  obtain ⟨p, q, hA0, hV, rfl, hfz, hnd⟩ := hW
  have hA : DataW.TrodAll enc Try.prog W 0 (fun _ => true) true Try.f15.params.toList args.toList ds p := hA0
  rw [Try.params15] at hA hval
  obtain ⟨v0, d0, rfl, rfl, h0⟩ := trodAll_one hA
  obtain ⟨ps0, hp0⟩ := open_pts (hval 0 22 v0 rfl rfl) h0
  refine (walk ps0 v0 _ _ W hp0 rfl).mono fun e W' ⟨he, hb⟩ => ?_
  subst he
  exact ⟨_, rfl, law_close Try.laidOut (by kernel_rfl) (by kernel_rfl) Try.underlying4 rfl hW' (fun h => by rfl) hb⟩

set_option maxHeartbeats 800000 in
theorem joined : joinedFacts Try.pinned.checked.prog 15 Try.f15 Rows.fnExactLapsOfSpec Rows.fnExactLapsOfRow = true := by
  delta joinedFacts
  with_reducible repeat' apply and_yes
  all_goals first
    | (with_reducible exact headEnter)
    | (with_reducible refine beq_of headFinal ?_; as_aux_lemma => kernel_rfl)
    | (with_reducible refine beq_of' headMake ?_; as_aux_lemma => kernel_rfl)
    | (as_aux_lemma => kernel_rfl)

theorem proved : Rows.FnExactLapsOfSaid :=
  OpenClaim.holds_of_wide 15 Try.f15 rfl rfl rfl rfl rfl rfl rfl ⟨rfl, rfl, rfl, rfl, rfl⟩ rfl rfl rfl rfl rfl (by kernel_rfl) Try.func15 joined
    (of_decide_eq_true (by kernel_rfl)) (by unfold Func.isWrapper; first | (rw [if_pos (by decide +kernel)]; kernel_rfl) | (rw [if_neg (by decide +kernel)]; exact ⟨rfl, rfl⟩))
    (fun os started H enc _ => lifted os started H enc)

end Go.Proofs.Ytkdhhopfefhdjaa.lawLapsOf
