/- Proved: for all arguments, the program's ClampMap returns what the reference's returns, and the arguments read afterwards as they did. No condition. -/
import Derived.Test.YtkaekjhcphgldaaGreatHead
import Derived.Test.YtkaekjhcphgldaaGreatClaS
import Derived.Test.YtkaekjhcphgldaaGreatMarks
namespace Go.Proofs.YtkaekjhcphgldaaGreat.lawClampMap
open Go.Proofs.YtkaekjhcphgldaaGreat
open Go.ChangeShapes Go.WideShapes Go.ChangeAt Go.RowKit Go.Joins

attribute [local go_sem ↓] Go.wp_at_zero Go.wp_at_succ

set_option maxHeartbeats 3200000 in
theorem walk (ps0 : List Pt) (v0 : Value) (n1 m1 : Int) (n2 m2 : Int) (l0 : List Pt) (t1 : Bool) (w : World) (hv0 : RdP w v0 ps0) (hl : clampQ ps0 (n1, m1) (n2, m2) = (l0, t1)) :
    Calls Tryz.prog 6 #[v0, .agg #[.int .i64 n1, .int .i64 m1], .agg #[.int .i64 n2, .int .i64 m2]] w fun e w' => e = .returned (.bool true) ∧ Below w.heap.size w w' := by
  have HL := Lib.hid hl
  clear hl
  by_cases hf0 : ps0.length ≤ 1048576
  rotate_left
  · go_enter Tryz.func6, Tryz.ntmps6
    go_wp2_with fail
    refine (szPointS_over ps0 v0 1048576 _ (hv0.keep (by go_grown)) (by omega) (by omega) (by omega)).mono ?_
    rintro e w0 ⟨rfl, h0⟩
    subst w0
    go_wp2_with fail
    go_ret
    exact ⟨rfl, by go_grown⟩
  have hn0 : ps0.length ≤ 1048576 := by omega
  go_enter Tryz.func6, Tryz.ntmps6
  go_wp2_with fail
  refine (szPointS_fits ps0 v0 1048576 _ (hv0.keep (by go_grown)) (by omega) (by omega)).mono ?_
  rintro e w0 ⟨rfl, h0⟩
  subst w0
  go_wp2_with fail
  go_name_world W0 hW
  have hX : Below w.heap.size w W0 := by rw [← hW]; go_grown
  have kL : Facts [(w.heap.size, 0, .int .i64 n1), (w.heap.size, 1, .int .i64 m1), (w.heap.size + 1, 0, .int .i64 n2), (w.heap.size + 1, 1, .int .i64 m2)] W0 := by rw [← hW]; simp [Facts, go_sem]
  replace hv0 := hv0.keep hX
  have hB : Below w.heap.size w W0 := hX
  clear hW hX
  go_region_held3 (fun w' => w'.cell? ⟨w.heap.size, 0, none⟩ = some (.int .i64 n1) ∧ w'.cell? ⟨w.heap.size, 1, none⟩ = some (.int .i64 m1) ∧ w'.cell? ⟨w.heap.size + 1, 0, none⟩ = some (.int .i64 n2) ∧ w'.cell? ⟨w.heap.size + 1, 1, none⟩ = some (.int .i64 m2))
    ((refine Facts.keep kL ?_; go_grown; done))
    ((first
      | (go_at_call 10; (with_reducible refine (toPointS_any ps0 v0 _ (hv0.keep (by go_grown)) hn0).mono ?_); rintro e w1 ⟨sr0, rfl, so0, hbw1⟩; have hsw1 : Below W0.heap.size W0 w1 := nextX (by go_grown) hbw1; have hXw1 : Below W0.heap.size W0 w1 := hsw1; have zw1 := hXw1.size)
      | (go_at_call 20; (with_reducible refine (toRat_any n1 m1 _).mono ?_); rintro e w2 ⟨rfl, hbw2⟩; have hsw2 : Below w1.heap.size w1 w2 := nextX (by go_grown) hbw2; have hXw2 : Below W0.heap.size W0 w2 := nextX hXw1 hsw2; have zw2 := hXw2.size)
      | (go_at_call 20; (with_reducible refine (toRat_any n2 m2 _).mono ?_); rintro e w3 ⟨rfl, hbw3⟩; have hsw3 : Below w2.heap.size w2 w3 := nextX (by go_grown) hbw3; have hXw3 : Below W0.heap.size W0 w3 := nextX hXw2 hsw3; have zw3 := hXw3.size)
      | (go_at_call 19; (with_reducible refine (sClampMap_is ps0 sr0 n1 m1 n2 m2 l0 t1 HL.out _ (((so0.keep hsw2).keep hsw3).read.keep (by go_grown)) hn0).mono ?_); rintro e w4 ⟨sv, rfl, sw, hbw4⟩; have hsw4 : Below w3.heap.size w3 w4 := nextX (by go_grown) hbw4; have hXw4 : Below W0.heap.size W0 w4 := nextX hXw3 hsw4; have zw4 := hXw4.size)))
  obtain ⟨Bsv, hBsv, hBsvn, sw⟩ : ∃ B, W0.heap.size ≤ B ∧ B ≤ w4.heap.size ∧ OwP B 48 w4 sv l0 := ⟨_, by go_size, hbw4.size, sw⟩
  have ox_0_sv : OldP Bsv v0 ps0 := hv0.oldP hBsv
  have fx_sv := kL.ltB hBsv
  have hw_sv : w.heap.size ≤ Bsv := Nat.le_trans hB.size hBsv
  replace hv0 := hv0.keep hXw4
  replace kL := kL.keep hXw4
  replace hB := nextW hB hXw4
  clear hbw1 hsw1 hXw1 hbw2 hsw2 hXw2 hbw3 hsw3 hXw3 hbw4 hsw4 hXw4
  go_wp2_with fail
  go_wp2_with fail
  refine (toPointS_any ps0 v0 _ (hv0.keep (by go_grown)) hn0).mono ?_
  rintro e w5 ⟨x0r, rfl, x0o, hb⟩
  have hX : Below w4.heap.size w4 w5 := nextX (by go_grown) hb
  obtain ⟨Bx0r, hBx0r, hBx0rn, x0o⟩ : ∃ B, w4.heap.size ≤ B ∧ B ≤ w5.heap.size ∧ OwP B 48 w5 x0r ps0 := ⟨_, by go_size, hb.size, x0o⟩
  have sp_sv_x0r : Sep sv x0r := sep_rows sw x0o hBx0r
  have ox_0_x0r : OldP Bx0r v0 ps0 := hv0.oldP hBx0r
  have fx_x0r := kL.ltB hBx0r
  have hw_x0r : w.heap.size ≤ Bx0r := Nat.le_trans hB.size hBx0r
  replace hv0 := hv0.keep hX
  replace kL := kL.keep hX
  replace sw := sw.keep hX
  replace hBsvn := Nat.le_trans hBsvn hX.size
  replace hB := nextW hB hX
  clear hb hX
  go_wp2_with fail
  go_name_world W5 hW
  have hX : Below w5.heap.size w5 W5 := by rw [← hW]; go_grown
  replace hv0 := hv0.keep hX
  replace kL := kL.keep hX
  replace sw := sw.keep hX
  replace hBsvn := Nat.le_trans hBsvn hX.size
  replace x0o := x0o.keep hX
  replace hBx0rn := Nat.le_trans hBx0rn hX.size
  replace hB := nextW hB hX
  clear hW hX
  go_region_held3 (fun w' => w'.cell? ⟨w.heap.size, 0, none⟩ = some (.int .i64 n1) ∧ w'.cell? ⟨w.heap.size, 1, none⟩ = some (.int .i64 m1) ∧ w'.cell? ⟨w.heap.size + 1, 0, none⟩ = some (.int .i64 n2) ∧ w'.cell? ⟨w.heap.size + 1, 1, none⟩ = some (.int .i64 m2))
    ((refine Facts.keep kL ?_; go_grown; done))
    ((first
      | (go_at_call 20; (with_reducible refine (toRat_any n1 m1 _).mono ?_); rintro e w6 ⟨rfl, hbw6⟩; have hsw6 : Below W5.heap.size W5 w6 := nextX (by go_grown) hbw6; have hXw6 : Below W5.heap.size W5 w6 := hsw6; have zw6 := hXw6.size)
      | (go_at_call 20; (with_reducible refine (toRat_any n2 m2 _).mono ?_); rintro e w7 ⟨rfl, hbw7⟩; have hsw7 : Below w6.heap.size w6 w7 := nextX (by go_grown) hbw7; have hXw7 : Below W5.heap.size W5 w7 := nextX hXw6 hsw7; have zw7 := hXw7.size)
      | (go_at_call 21; (with_reducible refine (iClampMap_is ps0 x0r n1 m1 n2 m2 l0 t1 HL.out _ (x0o.read.keep (by go_grown)) hn0).mono ?_); rintro e w8 ⟨gv, rfl, gw, hbw8⟩; have hsw8 : Below w7.heap.size w7 w8 := nextX (by go_grown) hbw8; have hXw8 : Below W5.heap.size W5 w8 := nextX hXw7 hsw8; have zw8 := hXw8.size)))
  obtain ⟨Bgv, hBgv, hBgvn, gw⟩ : ∃ B, W5.heap.size ≤ B ∧ B ≤ w8.heap.size ∧ OwP B 48 w8 gv l0 := ⟨_, by go_size, hbw8.size, gw⟩
  have sp_sv_gv : Sep sv gv := sep_rows sw gw hBgv
  have sp_x0r_gv : Sep x0r gv := sep_rows x0o gw hBgv
  have ox_0_gv : OldP Bgv v0 ps0 := hv0.oldP hBgv
  have fx_gv := kL.ltB hBgv
  have hw_gv : w.heap.size ≤ Bgv := Nat.le_trans hB.size hBgv
  replace hv0 := hv0.keep hXw8
  replace kL := kL.keep hXw8
  replace sw := sw.keep hXw8
  replace hBsvn := Nat.le_trans hBsvn hXw8.size
  replace x0o := x0o.keep hXw8
  replace hBx0rn := Nat.le_trans hBx0rn hXw8.size
  replace hB := nextW hB hXw8
  clear hbw6 hsw6 hXw6 hbw7 hsw7 hXw7 hbw8 hsw8 hXw8
  go_wp2_with fail
  go_wp2_with fail
  refine (eqPointS_same l0 gv sv _ (gw.read.keep (by go_grown)) (sw.read.keep (by go_grown))).mono ?_
  rintro e w9 ⟨rfl, hb⟩
  have hX : Below w8.heap.size w8 w9 := nextX (by go_grown) hb
  replace hv0 := hv0.keep hX
  replace kL := kL.keep hX
  replace sw := sw.keep hX
  replace hBsvn := Nat.le_trans hBsvn hX.size
  replace x0o := x0o.keep hX
  replace hBx0rn := Nat.le_trans hBx0rn hX.size
  replace gw := gw.keep hX
  replace hBgvn := Nat.le_trans hBgvn hX.size
  replace hB := nextW hB hX
  clear hb hX
  go_wp2_with fail
  refine (toPointS_any ps0 v0 _ (hv0.keep (by go_grown)) hn0).mono ?_
  rintro e w10 ⟨ar0, rfl, ao0, hb⟩
  have hX : Below w9.heap.size w9 w10 := nextX (by go_grown) hb
  replace hv0 := hv0.keep hX
  replace kL := kL.keep hX
  replace sw := sw.keep hX
  replace hBsvn := Nat.le_trans hBsvn hX.size
  replace x0o := x0o.keep hX
  replace hBx0rn := Nat.le_trans hBx0rn hX.size
  replace gw := gw.keep hX
  replace hBgvn := Nat.le_trans hBgvn hX.size
  replace hB := nextW hB hX
  clear hb hX
  go_wp2_with fail
  refine (eqPointS_same ps0 x0r ar0 _ (x0o.read.keep (by go_grown)) (ao0.read.keep (by go_grown))).mono ?_
  rintro e w11 ⟨rfl, hb⟩
  have hX : Below w10.heap.size w10 w11 := nextX (by go_grown) hb
  replace hv0 := hv0.keep hX
  replace kL := kL.keep hX
  replace sw := sw.keep hX
  replace hBsvn := Nat.le_trans hBsvn hX.size
  replace x0o := x0o.keep hX
  replace hBx0rn := Nat.le_trans hBx0rn hX.size
  replace gw := gw.keep hX
  replace hBgvn := Nat.le_trans hBgvn hX.size
  replace ao0 := ao0.keep hX
  replace hB := nextW hB hX
  clear hb hX
  clear ao0
  go_wp2_with fail
  refine (markPointS_is Bx0r ps0.length 48 x0r _ 1 _ (ownsRow_keep x0o (by go_grown)) (Nat.le_trans hBx0rn (by go_size)) (by omega) (by omega)).mono ?_
  rintro e w12 ⟨he, gm, hgm, hbut, hgo, hrow⟩
  obtain ⟨K12, hK12⟩ : ∃ K : Int, K = 1 + ((ps0.length * 4 : Nat) : Int) := ⟨_, rfl⟩
  rw [← hK12] at he
  subst he
  have pK12 : 0 ≤ K12 ∧ K12 ≤ 220000000 := by omega
  have qK12 : 0 ≤ K12 := pK12.1
  have HK12 := Lib.hid hK12
  clear hK12
  have hU : But gm w11 w12 := But.trans (But.of_below (B := w11.heap.size) (by go_grown) (Nat.le_refl _)) hbut
  have hgo2 : x0r.ownBlock = some gm ∨ w11.heap.size ≤ gm := hgo.imp id (fun h => Nat.le_trans (by go_size) h)
  replace hv0 := hv0.keepO hU ox_0_x0r hgm
  replace kL := kL.keepU hU (fun x hx => Nat.ne_of_lt (Nat.lt_of_lt_of_le (fx_x0r x hx) hgm))
  replace sw := sw.keepM hU hgo2 sp_sv_x0r.symm
  replace hBsvn := Nat.le_trans hBsvn hU.size
  replace hBx0rn := Nat.le_trans hBx0rn hU.size
  replace gw := gw.keepM hU hgo2 sp_x0r_gv
  replace hBgvn := Nat.le_trans hBgvn hU.size
  replace hB := below_but hB hU (Nat.le_trans hw_x0r hgm)
  clear hU hgo hgo2 hbut hrow hgm x0o
  go_wp2_with fail
  refine (eqPointS_same l0 gv sv _ (gw.read.keep (by go_grown)) (sw.read.keep (by go_grown))).mono ?_
  rintro e w13 ⟨rfl, hb⟩
  have hX : Below w12.heap.size w12 w13 := nextX (by go_grown) hb
  replace hv0 := hv0.keep hX
  replace kL := kL.keep hX
  replace sw := sw.keep hX
  replace hBsvn := Nat.le_trans hBsvn hX.size
  replace hBx0rn := Nat.le_trans hBx0rn hX.size
  replace gw := gw.keep hX
  replace hBgvn := Nat.le_trans hBgvn hX.size
  replace hB := nextW hB hX
  clear hb hX
  have hln : l0.length ≤ 1048576 := clampQ_len HL.out
  go_wp2_with fail
  refine (markPointS_is Bgv l0.length 48 gv _ 1 _ (ownsRow_keep gw (by go_grown)) (Nat.le_trans hBgvn (by go_size)) (by omega) (by omega)).mono ?_
  rintro e w14 ⟨he, gm, hgm, hbut, hgo, hrow⟩
  obtain ⟨K14, hK14⟩ : ∃ K : Int, K = 1 + ((l0.length * 4 : Nat) : Int) := ⟨_, rfl⟩
  rw [← hK14] at he
  subst he
  have pK14 : 0 ≤ K14 ∧ K14 ≤ 240000000 := by omega
  have qK14 : 0 ≤ K14 := pK14.1
  have HK14 := Lib.hid hK14
  clear hK14
  have hU : But gm w13 w14 := But.trans (But.of_below (B := w13.heap.size) (by go_grown) (Nat.le_refl _)) hbut
  have hgo2 : gv.ownBlock = some gm ∨ w13.heap.size ≤ gm := hgo.imp id (fun h => Nat.le_trans (by go_size) h)
  replace hv0 := hv0.keepO hU ox_0_gv hgm
  replace kL := kL.keepU hU (fun x hx => Nat.ne_of_lt (Nat.lt_of_lt_of_le (fx_gv x hx) hgm))
  replace sw := sw.keepM hU hgo2 sp_sv_gv.symm
  replace hBsvn := Nat.le_trans hBsvn hU.size
  replace hBx0rn := Nat.le_trans hBx0rn hU.size
  replace hBgvn := Nat.le_trans hBgvn hU.size
  replace hB := below_but hB hU (Nat.le_trans hw_gv hgm)
  have gm1 := hrow
  clear hU hgo hgo2 hbut hrow hgm gw
  go_wp2_with fail
  refine (heldPointS_is Bgv l0.length 48 gv 1 _ (ownsRow_keep gm1 (by go_grown)) (by omega) (by omega)).mono ?_
  rintro e w15 ⟨he, hb⟩
  rw [← HK14.out] at he
  subst he
  have hX : Below w14.heap.size w14 w15 := nextX (by go_grown) hb
  replace hv0 := hv0.keep hX
  replace kL := kL.keep hX
  replace sw := sw.keep hX
  replace hBsvn := Nat.le_trans hBsvn hX.size
  replace hBx0rn := Nat.le_trans hBx0rn hX.size
  replace hBgvn := Nat.le_trans hBgvn hX.size
  replace gm1 := ownsRow_keep gm1 hX
  replace hB := nextW hB hX
  clear hb hX
  go_wp2_with fail
  go_name_world W15 hW
  have hX : Below w15.heap.size w15 W15 := by rw [← hW]; go_grown
  replace hv0 := hv0.keep hX
  replace kL := kL.keep hX
  replace sw := sw.keep hX
  replace hBsvn := Nat.le_trans hBsvn hX.size
  replace hBx0rn := Nat.le_trans hBx0rn hX.size
  replace hBgvn := Nat.le_trans hBgvn hX.size
  replace gm1 := ownsRow_keep gm1 hX
  replace hB := nextW hB hX
  clear hW hX
  go_region_held3 (fun w' => w'.cell? ⟨w.heap.size, 0, none⟩ = some (.int .i64 n1) ∧ w'.cell? ⟨w.heap.size, 1, none⟩ = some (.int .i64 m1) ∧ w'.cell? ⟨w.heap.size + 1, 0, none⟩ = some (.int .i64 n2) ∧ w'.cell? ⟨w.heap.size + 1, 1, none⟩ = some (.int .i64 m2))
    ((refine Facts.keep kL ?_; go_grown; done))
    ((first
      | (go_at_call 10; (with_reducible refine (toPointS_any ps0 v0 _ (hv0.keep (by go_grown)) hn0).mono ?_); rintro e w16 ⟨hr0, rfl, ho0, hbw16⟩; have hsw16 : Below W15.heap.size W15 w16 := nextX (by go_grown) hbw16; have hXw16 : Below W15.heap.size W15 w16 := hsw16; have zw16 := hXw16.size)
      | (go_at_call 20; (with_reducible refine (toRat_any n1 m1 _).mono ?_); rintro e w17 ⟨rfl, hbw17⟩; have hsw17 : Below w16.heap.size w16 w17 := nextX (by go_grown) hbw17; have hXw17 : Below W15.heap.size W15 w17 := nextX hXw16 hsw17; have zw17 := hXw17.size)
      | (go_at_call 20; (with_reducible refine (toRat_any n2 m2 _).mono ?_); rintro e w18 ⟨rfl, hbw18⟩; have hsw18 : Below w17.heap.size w17 w18 := nextX (by go_grown) hbw18; have hXw18 : Below W15.heap.size W15 w18 := nextX hXw17 hsw18; have zw18 := hXw18.size)
      | (go_at_call 21; (with_reducible refine (iClampMap_is ps0 hr0 n1 m1 n2 m2 l0 t1 HL.out _ (((ho0.keep hsw17).keep hsw18).read.keep (by go_grown)) hn0).mono ?_); rintro e w19 ⟨hv, rfl, hw, hbw19⟩; have hsw19 : Below w18.heap.size w18 w19 := nextX (by go_grown) hbw19; have hXw19 : Below W15.heap.size W15 w19 := nextX hXw18 hsw19; have zw19 := hXw19.size)))
  obtain ⟨Bhv, hBhv, hBhvn, hw⟩ : ∃ B, W15.heap.size ≤ B ∧ B ≤ w19.heap.size ∧ OwP B 48 w19 hv l0 := ⟨_, by go_size, hbw19.size, hw⟩
  have sp_sv_hv : Sep sv hv := sep_rows sw hw hBhv
  have ox_0_hv : OldP Bhv v0 ps0 := hv0.oldP hBhv
  have fx_hv := kL.ltB hBhv
  have hw_hv : w.heap.size ≤ Bhv := Nat.le_trans hB.size hBhv
  replace hv0 := hv0.keep hXw19
  replace kL := kL.keep hXw19
  replace sw := sw.keep hXw19
  replace hBsvn := Nat.le_trans hBsvn hXw19.size
  replace hBx0rn := Nat.le_trans hBx0rn hXw19.size
  replace hBgvn := Nat.le_trans hBgvn hXw19.size
  replace gm1 := ownsRow_keep gm1 hXw19
  replace hB := nextW hB hXw19
  clear hbw16 hsw16 hXw16 hbw17 hsw17 hXw17 hbw18 hsw18 hXw18 hbw19 hsw19 hXw19
  go_wp2_with fail
  go_wp2_with fail
  refine (eqPointS_same l0 hv sv _ (hw.read.keep (by go_grown)) (sw.read.keep (by go_grown))).mono ?_
  rintro e w20 ⟨rfl, hb⟩
  have hX : Below w19.heap.size w19 w20 := nextX (by go_grown) hb
  replace hv0 := hv0.keep hX
  replace kL := kL.keep hX
  replace sw := sw.keep hX
  replace hBsvn := Nat.le_trans hBsvn hX.size
  replace hBx0rn := Nat.le_trans hBx0rn hX.size
  replace hBgvn := Nat.le_trans hBgvn hX.size
  replace gm1 := ownsRow_keep gm1 hX
  replace hw := hw.keep hX
  replace hBhvn := Nat.le_trans hBhvn hX.size
  replace hB := nextW hB hX
  clear hb hX
  go_wp2_with fail
  refine (heldPointS_is Bgv l0.length 48 gv 1 _ (ownsRow_keep gm1 (by go_grown)) (by omega) (by omega)).mono ?_
  rintro e w21 ⟨he, hb⟩
  rw [← HK14.out] at he
  subst he
  have hX : Below w20.heap.size w20 w21 := nextX (by go_grown) hb
  replace hv0 := hv0.keep hX
  replace kL := kL.keep hX
  replace sw := sw.keep hX
  replace hBsvn := Nat.le_trans hBsvn hX.size
  replace hBx0rn := Nat.le_trans hBx0rn hX.size
  replace hBgvn := Nat.le_trans hBgvn hX.size
  replace gm1 := ownsRow_keep gm1 hX
  replace hw := hw.keep hX
  replace hBhvn := Nat.le_trans hBhvn hX.size
  replace hB := nextW hB hX
  clear hb hX
  go_wp2_with fail
  go_ret
  exact ⟨rfl, hB⟩

set_option maxRecDepth 100000 in
theorem lifted (os : Os) (started : os.Started) (H : Type) (enc : TypeId × Value → H) :
    ReturnsInHanded {} Tryz.checked os 6 .any (Rows.fnExactClampMapSpec.pre6 enc Tryz.prog Tryz.f6 Rows.fnExactClampMapRow.domain false) (Rows.fnExactClampMapSpec.post enc Tryz.prog Tryz.f6 false true false false) := by
  refine returnsInHanded_of_change (C := Tryz.checked) Tryz.own started (by kernel_rfl) Tryz.func6
    (ChangeSpec.witness6 (enc := enc) (C := Tryz.checked) false ⟨#[], #[.slice none 0 0, .agg #[.int .i64 0, .int .i64 1], .agg #[.int .i64 0, .int .i64 1]], []⟩ 8 (by kernel_rfl) (by kernel_rfl) (by kernel_rfl) (by kernel_rfl)) ?_
  intro W base args ds gs before hval0 hW hcnd _
  have hval : ∀ (j : Nat) t v, Tryz.f6.params[j]? = some t → args[j]? = some v → Value.okWide Tryz.prog W .any base t v := hval0
  have hW' := hW
  obtain ⟨p, q, hA0, hV, rfl, hfz, hnd⟩ := hW
  have hA : DataW.TrodAll enc Tryz.prog W 0 (fun _ => true) true Tryz.f6.params.toList args.toList ds p := hA0
  rw [Tryz.params6] at hA hval
  obtain ⟨v0, v1, v2, d0, d1, d2, p0, p1, p2, rfl, rfl, rfl, h0, h1, h2⟩ := trodAll_three hA
  obtain ⟨ps0, hp0⟩ := open_pts (hval 0 22 v0 rfl rfl) h0
  obtain ⟨n1, m1, rfl, bn1, bm1⟩ := open_rat (hval 1 34 v1 rfl rfl) h1
  obtain ⟨n2, m2, rfl, bn2, bm2⟩ := open_rat (hval 2 34 v2 rfl rfl) h2
  refine (walk ps0 v0 n1 m1 n2 m2 _ _ W hp0 rfl).mono fun e W' ⟨he, hb⟩ => ?_
  subst he
  exact ⟨_, rfl, law_close Tryz.laidOut (by kernel_rfl) (by kernel_rfl) Tryz.underlying4 rfl hW' (fun h => by rfl) hb⟩

set_option maxHeartbeats 800000 in
theorem joined : joinedFacts Tryz.pinned.checked.prog 6 Tryz.f6 Rows.fnExactClampMapSpec Rows.fnExactClampMapRow = true := by
  delta joinedFacts
  with_reducible repeat' apply and_yes
  all_goals first
    | (with_reducible exact headEnter)
    | (with_reducible refine beq_of headFinal ?_; as_aux_lemma => kernel_rfl)
    | (with_reducible refine beq_of' headMake ?_; as_aux_lemma => kernel_rfl)
    | (as_aux_lemma => kernel_rfl)

theorem proved : Rows.FnExactClampMapSaid :=
  OpenClaim.holds_of_wide 6 Tryz.f6 rfl rfl rfl rfl rfl rfl rfl ⟨rfl, rfl, rfl, rfl, rfl⟩ rfl rfl rfl rfl rfl (by kernel_rfl) Tryz.func6 joined
    (of_decide_eq_true (by kernel_rfl)) (by unfold Func.isWrapper; first | (rw [if_pos (by decide +kernel)]; kernel_rfl) | (rw [if_neg (by decide +kernel)]; exact ⟨rfl, rfl⟩))
    (fun os started H enc _ => lifted os started H enc)

end Go.Proofs.YtkaekjhcphgldaaGreat.lawClampMap
