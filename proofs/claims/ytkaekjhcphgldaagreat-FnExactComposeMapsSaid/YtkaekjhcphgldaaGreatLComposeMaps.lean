/- Proved: for all arguments, the program's ComposeMaps returns what the reference's returns, and the arguments read afterwards as they did. No condition. -/
import Derived.Test.YtkaekjhcphgldaaGreatHead
import Derived.Test.YtkaekjhcphgldaaGreatComI
import Derived.Test.YtkaekjhcphgldaaGreatComS
import Derived.Test.YtkaekjhcphgldaaGreatMarks
namespace Go.Proofs.YtkaekjhcphgldaaGreat.lawComposeMaps
open Go.Proofs.YtkaekjhcphgldaaGreat
open Go.ChangeShapes Go.WideShapes Go.ChangeAt Go.RowKit Go.Joins

attribute [local go_sem ↓] Go.wp_at_zero Go.wp_at_succ

set_option maxHeartbeats 3200000 in
theorem walk (ps0 : List Pt) (v0 : Value) (ps1 : List Pt) (v1 : Value) (l0 : List Pt) (t1 : Bool) (w : World) (hv0 : RdP w v0 ps0) (hv1 : RdP w v1 ps1) (hl : composeQ ps0 ps1 = (l0, t1)) :
    Calls Tryz.prog 4 #[v0, v1] w fun e w' => e = .returned (.bool true) ∧ Below w.heap.size w w' := by
  have HL := Lib.hid hl
  clear hl
  by_cases hf0 : ps0.length ≤ 1048576
  rotate_left
  · go_enter Tryz.func4, Tryz.ntmps4
    go_wp2_with fail
    refine (szPointS_over ps0 v0 1048576 _ (hv0.keep (by go_grown)) (by omega) (by omega) (by omega)).mono ?_
    rintro e w0 ⟨rfl, h0⟩
    subst w0
    go_wp2_with fail
    go_ret
    exact ⟨rfl, by go_grown⟩
  by_cases hf1 : ps0.length + ps1.length ≤ 1048576
  rotate_left
  · go_enter Tryz.func4, Tryz.ntmps4
    go_wp2_with fail
    refine (szPointS_fits ps0 v0 1048576 _ (hv0.keep (by go_grown)) (by omega) (by omega)).mono ?_
    rintro e w0 ⟨rfl, h0⟩
    subst w0
    go_wp2_with fail
    refine (szPointS_over ps1 v1 _ _ (hv1.keep (by go_grown)) (by omega) (by omega) (by omega)).mono ?_
    rintro e w0 ⟨rfl, h0⟩
    subst w0
    go_wp2_with fail
    go_ret
    exact ⟨rfl, by go_grown⟩
  have hn0 : ps0.length ≤ 1048576 := by omega
  have hn1 : ps1.length ≤ 1048576 := by omega
  go_enter Tryz.func4, Tryz.ntmps4
  go_wp2_with fail
  refine (szPointS_fits ps0 v0 1048576 _ (hv0.keep (by go_grown)) (by omega) (by omega)).mono ?_
  rintro e w0 ⟨rfl, h0⟩
  subst w0
  go_wp2_with fail
  refine (szPointS_fits ps1 v1 _ _ (hv1.keep (by go_grown)) (by omega) (by omega)).mono ?_
  rintro e w0 ⟨rfl, h0⟩
  subst w0
  go_wp2_with fail
  refine (toPointS_any ps0 v0 _ (hv0.keep (by go_grown)) hn0).mono ?_
  rintro e w1 ⟨sr0, rfl, so0, hb⟩
  have hX : Below w.heap.size w w1 := nextX (by go_grown) hb
  replace hv0 := hv0.keep hX
  replace hv1 := hv1.keep hX
  have hB : Below w.heap.size w w1 := hX
  clear hb hX
  go_wp2_with fail
  refine (toPointS_any ps1 v1 _ (hv1.keep (by go_grown)) hn1).mono ?_
  rintro e w2 ⟨sr1, rfl, so1, hb⟩
  have hX : Below w1.heap.size w1 w2 := nextX (by go_grown) hb
  replace hv0 := hv0.keep hX
  replace hv1 := hv1.keep hX
  replace so0 := so0.keep hX
  replace hB := nextW hB hX
  clear hb hX
  go_wp2_with fail
  refine (sComposeMaps_is ps0 ps1 sr0 sr1 l0 t1 HL.out _ (so0.read.keep (by go_grown)) (so1.read.keep (by go_grown)) hn0 hn1).mono ?_
  rintro e w3 ⟨sv, rfl, sw, hb⟩
  have hX : Below w2.heap.size w2 w3 := nextX (by go_grown) hb
  clear so0
  clear so1
  obtain ⟨Bsv, hBsv, hBsvn, sw⟩ : ∃ B, w2.heap.size ≤ B ∧ B ≤ w3.heap.size ∧ OwP B 48 w3 sv l0 := ⟨_, by go_size, hb.size, sw⟩
  have ox_0_sv : OldP Bsv v0 ps0 := hv0.oldP hBsv
  have ox_1_sv : OldP Bsv v1 ps1 := hv1.oldP hBsv
  have hw_sv : w.heap.size ≤ Bsv := Nat.le_trans hB.size hBsv
  replace hv0 := hv0.keep hX
  replace hv1 := hv1.keep hX
  replace hB := nextW hB hX
  clear hb hX
  go_wp2_with fail
  refine (toPointS_any ps0 v0 _ (hv0.keep (by go_grown)) hn0).mono ?_
  rintro e w4 ⟨x0r, rfl, x0o, hb⟩
  have hX : Below w3.heap.size w3 w4 := nextX (by go_grown) hb
  obtain ⟨Bx0r, hBx0r, hBx0rn, x0o⟩ : ∃ B, w3.heap.size ≤ B ∧ B ≤ w4.heap.size ∧ OwP B 48 w4 x0r ps0 := ⟨_, by go_size, hb.size, x0o⟩
  have sp_sv_x0r : Sep sv x0r := sep_rows sw x0o hBx0r
  have ox_0_x0r : OldP Bx0r v0 ps0 := hv0.oldP hBx0r
  have ox_1_x0r : OldP Bx0r v1 ps1 := hv1.oldP hBx0r
  have hw_x0r : w.heap.size ≤ Bx0r := Nat.le_trans hB.size hBx0r
  replace hv0 := hv0.keep hX
  replace hv1 := hv1.keep hX
  replace sw := sw.keep hX
  replace hBsvn := Nat.le_trans hBsvn hX.size
  replace hB := nextW hB hX
  clear hb hX
  go_wp2_with fail
  refine (toPointS_any ps1 v1 _ (hv1.keep (by go_grown)) hn1).mono ?_
  rintro e w5 ⟨x1r, rfl, x1o, hb⟩
  have hX : Below w4.heap.size w4 w5 := nextX (by go_grown) hb
  obtain ⟨Bx1r, hBx1r, hBx1rn, x1o⟩ : ∃ B, w4.heap.size ≤ B ∧ B ≤ w5.heap.size ∧ OwP B 48 w5 x1r ps1 := ⟨_, by go_size, hb.size, x1o⟩
  have sp_sv_x1r : Sep sv x1r := sep_rows sw x1o hBx1r
  have sp_x0r_x1r : Sep x0r x1r := sep_rows x0o x1o hBx1r
  have ox_0_x1r : OldP Bx1r v0 ps0 := hv0.oldP hBx1r
  have ox_1_x1r : OldP Bx1r v1 ps1 := hv1.oldP hBx1r
  have hw_x1r : w.heap.size ≤ Bx1r := Nat.le_trans hB.size hBx1r
  replace hv0 := hv0.keep hX
  replace hv1 := hv1.keep hX
  replace sw := sw.keep hX
  replace hBsvn := Nat.le_trans hBsvn hX.size
  replace x0o := x0o.keep hX
  replace hBx0rn := Nat.le_trans hBx0rn hX.size
  replace hB := nextW hB hX
  clear hb hX
  go_wp2_with fail
  refine (iComposeMaps_is ps0 ps1 x0r x1r l0 t1 HL.out _ (x0o.read.keep (by go_grown)) (x1o.read.keep (by go_grown)) hn0 hn1).mono ?_
  rintro e w6 ⟨gv, rfl, gw, hb⟩
  have hX : Below w5.heap.size w5 w6 := nextX (by go_grown) hb
  obtain ⟨Bgv, hBgv, hBgvn, gw⟩ : ∃ B, w5.heap.size ≤ B ∧ B ≤ w6.heap.size ∧ OwP B 48 w6 gv l0 := ⟨_, by go_size, hb.size, gw⟩
  have sp_sv_gv : Sep sv gv := sep_rows sw gw hBgv
  have sp_x0r_gv : Sep x0r gv := sep_rows x0o gw hBgv
  have sp_x1r_gv : Sep x1r gv := sep_rows x1o gw hBgv
  have ox_0_gv : OldP Bgv v0 ps0 := hv0.oldP hBgv
  have ox_1_gv : OldP Bgv v1 ps1 := hv1.oldP hBgv
  have hw_gv : w.heap.size ≤ Bgv := Nat.le_trans hB.size hBgv
  replace hv0 := hv0.keep hX
  replace hv1 := hv1.keep hX
  replace sw := sw.keep hX
  replace hBsvn := Nat.le_trans hBsvn hX.size
  replace x0o := x0o.keep hX
  replace hBx0rn := Nat.le_trans hBx0rn hX.size
  replace x1o := x1o.keep hX
  replace hBx1rn := Nat.le_trans hBx1rn hX.size
  replace hB := nextW hB hX
  clear hb hX
  go_wp2_with fail
  refine (eqPointS_same l0 gv sv _ (gw.read.keep (by go_grown)) (sw.read.keep (by go_grown))).mono ?_
  rintro e w7 ⟨rfl, hb⟩
  have hX : Below w6.heap.size w6 w7 := nextX (by go_grown) hb
  replace hv0 := hv0.keep hX
  replace hv1 := hv1.keep hX
  replace sw := sw.keep hX
  replace hBsvn := Nat.le_trans hBsvn hX.size
  replace x0o := x0o.keep hX
  replace hBx0rn := Nat.le_trans hBx0rn hX.size
  replace x1o := x1o.keep hX
  replace hBx1rn := Nat.le_trans hBx1rn hX.size
  replace gw := gw.keep hX
  replace hBgvn := Nat.le_trans hBgvn hX.size
  replace hB := nextW hB hX
  clear hb hX
  go_wp2_with fail
  refine (toPointS_any ps0 v0 _ (hv0.keep (by go_grown)) hn0).mono ?_
  rintro e w8 ⟨ar0, rfl, ao0, hb⟩
  have hX : Below w7.heap.size w7 w8 := nextX (by go_grown) hb
  replace hv0 := hv0.keep hX
  replace hv1 := hv1.keep hX
  replace sw := sw.keep hX
  replace hBsvn := Nat.le_trans hBsvn hX.size
  replace x0o := x0o.keep hX
  replace hBx0rn := Nat.le_trans hBx0rn hX.size
  replace x1o := x1o.keep hX
  replace hBx1rn := Nat.le_trans hBx1rn hX.size
  replace gw := gw.keep hX
  replace hBgvn := Nat.le_trans hBgvn hX.size
  replace hB := nextW hB hX
  clear hb hX
  go_wp2_with fail
  refine (eqPointS_same ps0 x0r ar0 _ (x0o.read.keep (by go_grown)) (ao0.read.keep (by go_grown))).mono ?_
  rintro e w9 ⟨rfl, hb⟩
  have hX : Below w8.heap.size w8 w9 := nextX (by go_grown) hb
  replace hv0 := hv0.keep hX
  replace hv1 := hv1.keep hX
  replace sw := sw.keep hX
  replace hBsvn := Nat.le_trans hBsvn hX.size
  replace x0o := x0o.keep hX
  replace hBx0rn := Nat.le_trans hBx0rn hX.size
  replace x1o := x1o.keep hX
  replace hBx1rn := Nat.le_trans hBx1rn hX.size
  replace gw := gw.keep hX
  replace hBgvn := Nat.le_trans hBgvn hX.size
  replace ao0 := ao0.keep hX
  replace hB := nextW hB hX
  clear hb hX
  clear ao0
  go_wp2_with fail
  refine (toPointS_any ps1 v1 _ (hv1.keep (by go_grown)) hn1).mono ?_
  rintro e w10 ⟨ar1, rfl, ao1, hb⟩
  have hX : Below w9.heap.size w9 w10 := nextX (by go_grown) hb
  replace hv0 := hv0.keep hX
  replace hv1 := hv1.keep hX
  replace sw := sw.keep hX
  replace hBsvn := Nat.le_trans hBsvn hX.size
  replace x0o := x0o.keep hX
  replace hBx0rn := Nat.le_trans hBx0rn hX.size
  replace x1o := x1o.keep hX
  replace hBx1rn := Nat.le_trans hBx1rn hX.size
  replace gw := gw.keep hX
  replace hBgvn := Nat.le_trans hBgvn hX.size
  replace hB := nextW hB hX
  clear hb hX
  go_wp2_with fail
  refine (eqPointS_same ps1 x1r ar1 _ (x1o.read.keep (by go_grown)) (ao1.read.keep (by go_grown))).mono ?_
  rintro e w11 ⟨rfl, hb⟩
  have hX : Below w10.heap.size w10 w11 := nextX (by go_grown) hb
  replace hv0 := hv0.keep hX
  replace hv1 := hv1.keep hX
  replace sw := sw.keep hX
  replace hBsvn := Nat.le_trans hBsvn hX.size
  replace x0o := x0o.keep hX
  replace hBx0rn := Nat.le_trans hBx0rn hX.size
  replace x1o := x1o.keep hX
  replace hBx1rn := Nat.le_trans hBx1rn hX.size
  replace gw := gw.keep hX
  replace hBgvn := Nat.le_trans hBgvn hX.size
  replace ao1 := ao1.keep hX
  replace hB := nextW hB hX
  clear hb hX
  clear ao1
  go_wp2_with fail
  refine (markPointS_is Bx0r ps0.length 48 x0r _ 1 _ (ownsRow_keep x0o (by go_grown)) (Nat.le_trans hBx0rn (by go_size)) (by omega) (by omega)).mono ?_
  rintro e w12 ⟨he, gm, hgm, hbut, hgo, hrow⟩
  obtain ⟨K12, hK12⟩ : ∃ K : Int, K = 1 + ((ps0.length * 4 : Nat) : Int) := ⟨_, rfl⟩
  rw [← hK12] at he
  subst he
  have pK12 : 0 ≤ K12 ∧ K12 ≤ 220000000 := by omega
  have qK12 : 0 ≤ K12 := pK12.1
  have HK12 := Lib.hid hK12
  clear hK12
  have hU : But gm w11 w12 := But.trans (But.of_below (B := w11.heap.size) (by go_grown) (Nat.le_refl _)) hbut
  have hgo2 : x0r.ownBlock = some gm ∨ w11.heap.size ≤ gm := hgo.imp id (fun h => Nat.le_trans (by go_size) h)
  replace hv0 := hv0.keepO hU ox_0_x0r hgm
  replace hv1 := hv1.keepO hU ox_1_x0r hgm
  replace sw := sw.keepM hU hgo2 sp_sv_x0r.symm
  replace hBsvn := Nat.le_trans hBsvn hU.size
  replace hBx0rn := Nat.le_trans hBx0rn hU.size
  replace x1o := x1o.keepM hU hgo2 sp_x0r_x1r
  replace hBx1rn := Nat.le_trans hBx1rn hU.size
  replace gw := gw.keepM hU hgo2 sp_x0r_gv
  replace hBgvn := Nat.le_trans hBgvn hU.size
  replace hB := below_but hB hU (Nat.le_trans hw_x0r hgm)
  clear hU hgo hgo2 hbut hrow hgm x0o
  go_wp2_with fail
  refine (markPointS_is Bx1r ps1.length 48 x1r _ K12 _ (ownsRow_keep x1o (by go_grown)) (Nat.le_trans hBx1rn (by go_size)) (by omega) (by omega)).mono ?_
  rintro e w13 ⟨he, gm, hgm, hbut, hgo, hrow⟩
  obtain ⟨K13, hK13⟩ : ∃ K : Int, K = K12 + ((ps1.length * 4 : Nat) : Int) := ⟨_, rfl⟩
  rw [← hK13] at he
  subst he
  have pK13 : 0 ≤ K13 ∧ K13 ≤ 230000000 := by omega
  have qK13 : 0 ≤ K13 := pK13.1
  have HK13 := Lib.hid hK13
  clear hK13
  have hU : But gm w12 w13 := But.trans (But.of_below (B := w12.heap.size) (by go_grown) (Nat.le_refl _)) hbut
  have hgo2 : x1r.ownBlock = some gm ∨ w12.heap.size ≤ gm := hgo.imp id (fun h => Nat.le_trans (by go_size) h)
  replace hv0 := hv0.keepO hU ox_0_x1r hgm
  replace hv1 := hv1.keepO hU ox_1_x1r hgm
  replace sw := sw.keepM hU hgo2 sp_sv_x1r.symm
  replace hBsvn := Nat.le_trans hBsvn hU.size
  replace hBx0rn := Nat.le_trans hBx0rn hU.size
  replace hBx1rn := Nat.le_trans hBx1rn hU.size
  replace gw := gw.keepM hU hgo2 sp_x1r_gv
  replace hBgvn := Nat.le_trans hBgvn hU.size
  replace hB := below_but hB hU (Nat.le_trans hw_x1r hgm)
  clear hU hgo hgo2 hbut hrow hgm x1o
  go_wp2_with fail
  refine (eqPointS_same l0 gv sv _ (gw.read.keep (by go_grown)) (sw.read.keep (by go_grown))).mono ?_
  rintro e w14 ⟨rfl, hb⟩
  have hX : Below w13.heap.size w13 w14 := nextX (by go_grown) hb
  replace hv0 := hv0.keep hX
  replace hv1 := hv1.keep hX
  replace sw := sw.keep hX
  replace hBsvn := Nat.le_trans hBsvn hX.size
  replace hBx0rn := Nat.le_trans hBx0rn hX.size
  replace hBx1rn := Nat.le_trans hBx1rn hX.size
  replace gw := gw.keep hX
  replace hBgvn := Nat.le_trans hBgvn hX.size
  replace hB := nextW hB hX
  clear hb hX
  have hln : l0.length ≤ 1048576 := composeQ_len HL.out
  go_wp2_with fail
  refine (markPointS_is Bgv l0.length 48 gv _ 1 _ (ownsRow_keep gw (by go_grown)) (Nat.le_trans hBgvn (by go_size)) (by omega) (by omega)).mono ?_
  rintro e w15 ⟨he, gm, hgm, hbut, hgo, hrow⟩
  obtain ⟨K15, hK15⟩ : ∃ K : Int, K = 1 + ((l0.length * 4 : Nat) : Int) := ⟨_, rfl⟩
  rw [← hK15] at he
  subst he
  have pK15 : 0 ≤ K15 ∧ K15 ≤ 250000000 := by omega
  have qK15 : 0 ≤ K15 := pK15.1
  have HK15 := Lib.hid hK15
  clear hK15
  have hU : But gm w14 w15 := But.trans (But.of_below (B := w14.heap.size) (by go_grown) (Nat.le_refl _)) hbut
  have hgo2 : gv.ownBlock = some gm ∨ w14.heap.size ≤ gm := hgo.imp id (fun h => Nat.le_trans (by go_size) h)
  replace hv0 := hv0.keepO hU ox_0_gv hgm
  replace hv1 := hv1.keepO hU ox_1_gv hgm
  replace sw := sw.keepM hU hgo2 sp_sv_gv.symm
  replace hBsvn := Nat.le_trans hBsvn hU.size
  replace hBx0rn := Nat.le_trans hBx0rn hU.size
  replace hBx1rn := Nat.le_trans hBx1rn hU.size
  replace hBgvn := Nat.le_trans hBgvn hU.size
  replace hB := below_but hB hU (Nat.le_trans hw_gv hgm)
  have gm1 := hrow
  clear hU hgo hgo2 hbut hrow hgm gw
  go_wp2_with fail
  refine (heldPointS_is Bgv l0.length 48 gv 1 _ (ownsRow_keep gm1 (by go_grown)) (by omega) (by omega)).mono ?_
  rintro e w16 ⟨he, hb⟩
  rw [← HK15.out] at he
  subst he
  have hX : Below w15.heap.size w15 w16 := nextX (by go_grown) hb
  replace hv0 := hv0.keep hX
  replace hv1 := hv1.keep hX
  replace sw := sw.keep hX
  replace hBsvn := Nat.le_trans hBsvn hX.size
  replace hBx0rn := Nat.le_trans hBx0rn hX.size
  replace hBx1rn := Nat.le_trans hBx1rn hX.size
  replace hBgvn := Nat.le_trans hBgvn hX.size
  replace gm1 := ownsRow_keep gm1 hX
  replace hB := nextW hB hX
  clear hb hX
  go_wp2_with fail
  refine (toPointS_any ps0 v0 _ (hv0.keep (by go_grown)) hn0).mono ?_
  rintro e w17 ⟨hr0, rfl, ho0, hb⟩
  have hX : Below w16.heap.size w16 w17 := nextX (by go_grown) hb
  replace hv0 := hv0.keep hX
  replace hv1 := hv1.keep hX
  replace sw := sw.keep hX
  replace hBsvn := Nat.le_trans hBsvn hX.size
  replace hBx0rn := Nat.le_trans hBx0rn hX.size
  replace hBx1rn := Nat.le_trans hBx1rn hX.size
  replace hBgvn := Nat.le_trans hBgvn hX.size
  replace gm1 := ownsRow_keep gm1 hX
  replace hB := nextW hB hX
  clear hb hX
  go_wp2_with fail
  refine (toPointS_any ps1 v1 _ (hv1.keep (by go_grown)) hn1).mono ?_
  rintro e w18 ⟨hr1, rfl, ho1, hb⟩
  have hX : Below w17.heap.size w17 w18 := nextX (by go_grown) hb
  replace hv0 := hv0.keep hX
  replace hv1 := hv1.keep hX
  replace sw := sw.keep hX
  replace hBsvn := Nat.le_trans hBsvn hX.size
  replace hBx0rn := Nat.le_trans hBx0rn hX.size
  replace hBx1rn := Nat.le_trans hBx1rn hX.size
  replace hBgvn := Nat.le_trans hBgvn hX.size
  replace gm1 := ownsRow_keep gm1 hX
  replace ho0 := ho0.keep hX
  replace hB := nextW hB hX
  clear hb hX
  go_wp2_with fail
  refine (iComposeMaps_is ps0 ps1 hr0 hr1 l0 t1 HL.out _ (ho0.read.keep (by go_grown)) (ho1.read.keep (by go_grown)) hn0 hn1).mono ?_
  rintro e w19 ⟨hv, rfl, hw, hb⟩
  have hX : Below w18.heap.size w18 w19 := nextX (by go_grown) hb
  clear ho0
  clear ho1
  obtain ⟨Bhv, hBhv, hBhvn, hw⟩ : ∃ B, w18.heap.size ≤ B ∧ B ≤ w19.heap.size ∧ OwP B 48 w19 hv l0 := ⟨_, by go_size, hb.size, hw⟩
  have sp_sv_hv : Sep sv hv := sep_rows sw hw hBhv
  have ox_0_hv : OldP Bhv v0 ps0 := hv0.oldP hBhv
  have ox_1_hv : OldP Bhv v1 ps1 := hv1.oldP hBhv
  have hw_hv : w.heap.size ≤ Bhv := Nat.le_trans hB.size hBhv
  replace hv0 := hv0.keep hX
  replace hv1 := hv1.keep hX
  replace sw := sw.keep hX
  replace hBsvn := Nat.le_trans hBsvn hX.size
  replace hBx0rn := Nat.le_trans hBx0rn hX.size
  replace hBx1rn := Nat.le_trans hBx1rn hX.size
  replace hBgvn := Nat.le_trans hBgvn hX.size
  replace gm1 := ownsRow_keep gm1 hX
  replace hB := nextW hB hX
  clear hb hX
  go_wp2_with fail
  refine (eqPointS_same l0 hv sv _ (hw.read.keep (by go_grown)) (sw.read.keep (by go_grown))).mono ?_
  rintro e w20 ⟨rfl, hb⟩
  have hX : Below w19.heap.size w19 w20 := nextX (by go_grown) hb
  replace hv0 := hv0.keep hX
  replace hv1 := hv1.keep hX
  replace sw := sw.keep hX
  replace hBsvn := Nat.le_trans hBsvn hX.size
  replace hBx0rn := Nat.le_trans hBx0rn hX.size
  replace hBx1rn := Nat.le_trans hBx1rn hX.size
  replace hBgvn := Nat.le_trans hBgvn hX.size
  replace gm1 := ownsRow_keep gm1 hX
  replace hw := hw.keep hX
  replace hBhvn := Nat.le_trans hBhvn hX.size
  replace hB := nextW hB hX
  clear hb hX
  go_wp2_with fail
  refine (heldPointS_is Bgv l0.length 48 gv 1 _ (ownsRow_keep gm1 (by go_grown)) (by omega) (by omega)).mono ?_
  rintro e w21 ⟨he, hb⟩
  rw [← HK15.out] at he
  subst he
  have hX : Below w20.heap.size w20 w21 := nextX (by go_grown) hb
  replace hv0 := hv0.keep hX
  replace hv1 := hv1.keep hX
  replace sw := sw.keep hX
  replace hBsvn := Nat.le_trans hBsvn hX.size
  replace hBx0rn := Nat.le_trans hBx0rn hX.size
  replace hBx1rn := Nat.le_trans hBx1rn hX.size
  replace hBgvn := Nat.le_trans hBgvn hX.size
  replace gm1 := ownsRow_keep gm1 hX
  replace hw := hw.keep hX
  replace hBhvn := Nat.le_trans hBhvn hX.size
  replace hB := nextW hB hX
  clear hb hX
  go_wp2_with fail
  go_ret
  exact ⟨rfl, hB⟩

set_option maxRecDepth 100000 in
theorem lifted (os : Os) (started : os.Started) (H : Type) (enc : TypeId × Value → H) :
    ReturnsInHanded {} Tryz.checked os 4 .any (Rows.fnExactComposeMapsSpec.pre6 enc Tryz.prog Tryz.f4 Rows.fnExactComposeMapsRow.domain false) (Rows.fnExactComposeMapsSpec.post enc Tryz.prog Tryz.f4 false true false false) := by
  refine returnsInHanded_of_change (C := Tryz.checked) Tryz.own started (by kernel_rfl) Tryz.func4
    (ChangeSpec.witness6 (enc := enc) (C := Tryz.checked) false ⟨#[], #[.slice none 0 0, .slice none 0 0], []⟩ 8 (by kernel_rfl) (by kernel_rfl) (by kernel_rfl) (by kernel_rfl)) ?_
  intro W base args ds gs before hval0 hW hcnd _
  have hval : ∀ (j : Nat) t v, Tryz.f4.params[j]? = some t → args[j]? = some v → Value.okWide Tryz.prog W .any base t v := hval0
  have hW' := hW
  obtain ⟨p, q, hA0, hV, rfl, hfz, hnd⟩ := hW
  have hA : DataW.TrodAll enc Tryz.prog W 0 (fun _ => true) true Tryz.f4.params.toList args.toList ds p := hA0
  rw [Tryz.params4] at hA hval
  obtain ⟨v0, v1, d0, d1, p0, p1, rfl, rfl, rfl, h0, h1⟩ := trodAll_two hA
  obtain ⟨ps0, hp0⟩ := open_pts (hval 0 22 v0 rfl rfl) h0
  obtain ⟨ps1, hp1⟩ := open_pts (hval 1 22 v1 rfl rfl) h1
  refine (walk ps0 v0 ps1 v1 _ _ W hp0 hp1 rfl).mono fun e W' ⟨he, hb⟩ => ?_
  subst he
  exact ⟨_, rfl, law_close Tryz.laidOut (by kernel_rfl) (by kernel_rfl) Tryz.underlying4 rfl hW' (fun h => by rfl) hb⟩

set_option maxHeartbeats 800000 in
theorem joined : joinedFacts Tryz.pinned.checked.prog 4 Tryz.f4 Rows.fnExactComposeMapsSpec Rows.fnExactComposeMapsRow = true := by
  delta joinedFacts
  with_reducible repeat' apply and_yes
  all_goals first
    | (with_reducible exact headEnter)
    | (with_reducible refine beq_of headFinal ?_; as_aux_lemma => kernel_rfl)
    | (with_reducible refine beq_of' headMake ?_; as_aux_lemma => kernel_rfl)
    | (as_aux_lemma => kernel_rfl)

theorem proved : Rows.FnExactComposeMapsSaid :=
  OpenClaim.holds_of_wide 4 Tryz.f4 rfl rfl rfl rfl rfl rfl rfl ⟨rfl, rfl, rfl, rfl, rfl⟩ rfl rfl rfl rfl rfl (by kernel_rfl) Tryz.func4 joined
    (of_decide_eq_true (by kernel_rfl)) (by unfold Func.isWrapper; first | (rw [if_pos (by decide +kernel)]; kernel_rfl) | (rw [if_neg (by decide +kernel)]; exact ⟨rfl, rfl⟩))
    (fun os started H enc _ => lifted os started H enc)

end Go.Proofs.YtkaekjhcphgldaaGreat.lawComposeMaps
