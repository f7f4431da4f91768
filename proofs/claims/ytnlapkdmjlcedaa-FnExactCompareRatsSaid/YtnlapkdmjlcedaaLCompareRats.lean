/- Proved: for all arguments, the program's CompareRats returns what the reference's returns, and the arguments read afterwards as they did. No condition. -/
import Derived.Test.YtnlapkdmjlcedaaLawTwo
import Derived.Test.YtnlapkdmjlcedaaRat9
namespace Go.Proofs.Ytnlapkdmjlcedaa.lawCompareRats
open Go.Proofs.Ytnlapkdmjlcedaa
open Go.ChangeShapes Go.WideShapes Go.ChangeAt Go.RowKit Go.Joins

attribute [local go_sem ↓] Go.wp_at_zero Go.wp_at_succ

set_option maxHeartbeats 800000 in
theorem walk_yes (n1 d1 n2 d2 : Int) (h : (okQ n1 d1 && okQ n2 d2) = true) (w : World) :
    Calls Try.prog 6 #[.agg #[.int .i64 n1, .int .i64 d1], .agg #[.int .i64 n2, .int .i64 d2]] w fun e w' => e = .returned (.bool true) ∧ Below w.heap.size w w' := by
  have HS := Lib.hid h
  clear h
  go_enter Try.func6, Try.ntmps6
  go_wp2_with fail
  go_region_held3 (fun w' => w'.cell? ⟨w.heap.size, 0, none⟩ = some (.int .i64 n1) ∧ w'.cell? ⟨w.heap.size, 1, none⟩ = some (.int .i64 d1) ∧ w'.cell? ⟨w.heap.size + 1, 0, none⟩ = some (.int .i64 n2) ∧ w'.cell? ⟨w.heap.size + 1, 1, none⟩ = some (.int .i64 d2))
    ((first | exact Box2.start _ _ _ _ _ _ | exact k3 | exact k2 | exact k1))
    ((first
      | (go_at_call 16; (with_reducible refine (toRat_any n1 d1 _).mono ?_); rintro e w1 ⟨rfl, hb1⟩; have k1 := Box2.keep (w := w) (n1 := n1) (d1 := d1) (n2 := n2) (d2 := d2) (by assumption) hb1; have hB1 := nextB (B := w.heap.size) (w := w) (by go_grown) (by go_size) hb1; have z1 := hB1.size)
      | (go_at_call 16; (with_reducible refine (toRat_any n2 d2 _).mono ?_); rintro e w2 ⟨rfl, hb2⟩; have k2 := Box2.keep (w := w) (n1 := n1) (d1 := d1) (n2 := n2) (d2 := d2) (by assumption) hb2; have hB2 := nextB (B := w.heap.size) (w := w) (by go_grown) (by go_size) hb2; have z2 := hB2.size)
      | (go_at_call 20; (with_reducible refine (sCompare_yes n1 d1 n2 d2 HS.out _).mono ?_); rintro e w3 ⟨rfl, hb3⟩; have k3 := Box2.keep (w := w) (n1 := n1) (d1 := d1) (n2 := n2) (d2 := d2) (by assumption) hb3; have hB3 := nextB (B := w.heap.size) (w := w) (by go_grown) (by go_size) hb3; have z3 := hB3.size)))
  clear hb1 hb2 hb3 hB1 hB2 k1 k2 z1 z2
  go_wp2_with fail
  go_region_held3 (fun w' => w'.cell? ⟨w.heap.size, 0, none⟩ = some (.int .i64 n1) ∧ w'.cell? ⟨w.heap.size, 1, none⟩ = some (.int .i64 d1) ∧ w'.cell? ⟨w.heap.size + 1, 0, none⟩ = some (.int .i64 n2) ∧ w'.cell? ⟨w.heap.size + 1, 1, none⟩ = some (.int .i64 d2))
    ((first | exact k3 | exact k6 | exact k5 | exact k4))
    ((first
      | (go_at_call 16; (with_reducible refine (toRat_any n1 d1 _).mono ?_); rintro e w4 ⟨rfl, hb4⟩; have k4 := Box2.keep (w := w) (n1 := n1) (d1 := d1) (n2 := n2) (d2 := d2) (by assumption) hb4; have hB4 := nextB (B := w.heap.size) (w := w) (by go_grown) (by go_size) hb4; have z4 := hB4.size)
      | (go_at_call 16; (with_reducible refine (toRat_any n2 d2 _).mono ?_); rintro e w5 ⟨rfl, hb5⟩; have k5 := Box2.keep (w := w) (n1 := n1) (d1 := d1) (n2 := n2) (d2 := d2) (by assumption) hb5; have hB5 := nextB (B := w.heap.size) (w := w) (by go_grown) (by go_size) hb5; have z5 := hB5.size)
      | (go_at_call 21; (with_reducible refine (compareRats_yes n1 d1 n2 d2 HS.out _).mono ?_); rintro e w6 ⟨rfl, hb6⟩; have k6 := Box2.keep (w := w) (n1 := n1) (d1 := d1) (n2 := n2) (d2 := d2) (by assumption) hb6; have hB6 := nextB (B := w.heap.size) (w := w) (by go_grown) (by go_size) hb6; have z6 := hB6.size)))
  go_wp2_with fail
  go_ret
  exact ⟨rfl, hB6⟩

set_option maxHeartbeats 800000 in
theorem walk_no (n1 d1 n2 d2 : Int) (h : (okQ n1 d1 && okQ n2 d2) = false) (w : World) :
    Calls Try.prog 6 #[.agg #[.int .i64 n1, .int .i64 d1], .agg #[.int .i64 n2, .int .i64 d2]] w fun e w' => e = .returned (.bool true) ∧ Below w.heap.size w w' := by
  have HS := Lib.hid h
  clear h
  go_enter Try.func6, Try.ntmps6
  go_wp2_with fail
  go_region_held3 (fun w' => w'.cell? ⟨w.heap.size, 0, none⟩ = some (.int .i64 n1) ∧ w'.cell? ⟨w.heap.size, 1, none⟩ = some (.int .i64 d1) ∧ w'.cell? ⟨w.heap.size + 1, 0, none⟩ = some (.int .i64 n2) ∧ w'.cell? ⟨w.heap.size + 1, 1, none⟩ = some (.int .i64 d2))
    ((first | exact Box2.start _ _ _ _ _ _ | exact k3 | exact k2 | exact k1))
    ((first
      | (go_at_call 16; (with_reducible refine (toRat_any n1 d1 _).mono ?_); rintro e w1 ⟨rfl, hb1⟩; have k1 := Box2.keep (w := w) (n1 := n1) (d1 := d1) (n2 := n2) (d2 := d2) (by assumption) hb1; have hB1 := nextB (B := w.heap.size) (w := w) (by go_grown) (by go_size) hb1; have z1 := hB1.size)
      | (go_at_call 16; (with_reducible refine (toRat_any n2 d2 _).mono ?_); rintro e w2 ⟨rfl, hb2⟩; have k2 := Box2.keep (w := w) (n1 := n1) (d1 := d1) (n2 := n2) (d2 := d2) (by assumption) hb2; have hB2 := nextB (B := w.heap.size) (w := w) (by go_grown) (by go_size) hb2; have z2 := hB2.size)
      | (go_at_call 20; (with_reducible refine (sCompare_no n1 d1 n2 d2 HS.out _).mono ?_); rintro e w3 ⟨rfl, hb3⟩; have k3 := Box2.keep (w := w) (n1 := n1) (d1 := d1) (n2 := n2) (d2 := d2) (by assumption) hb3; have hB3 := nextB (B := w.heap.size) (w := w) (by go_grown) (by go_size) hb3; have z3 := hB3.size)))
  clear hb1 hb2 hb3 hB1 hB2 k1 k2 z1 z2
  go_wp2_with fail
  go_region_held3 (fun w' => w'.cell? ⟨w.heap.size, 0, none⟩ = some (.int .i64 n1) ∧ w'.cell? ⟨w.heap.size, 1, none⟩ = some (.int .i64 d1) ∧ w'.cell? ⟨w.heap.size + 1, 0, none⟩ = some (.int .i64 n2) ∧ w'.cell? ⟨w.heap.size + 1, 1, none⟩ = some (.int .i64 d2))
    ((first | exact k3 | exact k6 | exact k5 | exact k4))
    ((first
      | (go_at_call 16; (with_reducible refine (toRat_any n1 d1 _).mono ?_); rintro e w4 ⟨rfl, hb4⟩; have k4 := Box2.keep (w := w) (n1 := n1) (d1 := d1) (n2 := n2) (d2 := d2) (by assumption) hb4; have hB4 := nextB (B := w.heap.size) (w := w) (by go_grown) (by go_size) hb4; have z4 := hB4.size)
      | (go_at_call 16; (with_reducible refine (toRat_any n2 d2 _).mono ?_); rintro e w5 ⟨rfl, hb5⟩; have k5 := Box2.keep (w := w) (n1 := n1) (d1 := d1) (n2 := n2) (d2 := d2) (by assumption) hb5; have hB5 := nextB (B := w.heap.size) (w := w) (by go_grown) (by go_size) hb5; have z5 := hB5.size)
      | (go_at_call 21; (with_reducible refine (compareRats_no n1 d1 n2 d2 HS.out _).mono ?_); rintro e w6 ⟨rfl, hb6⟩; have k6 := Box2.keep (w := w) (n1 := n1) (d1 := d1) (n2 := n2) (d2 := d2) (by assumption) hb6; have hB6 := nextB (B := w.heap.size) (w := w) (by go_grown) (by go_size) hb6; have z6 := hB6.size)))
  go_wp2_with fail
  go_ret
  exact ⟨rfl, hB6⟩

theorem walk (n1 d1 n2 d2 : Int) (w : World) :
    Calls Try.prog 6 #[.agg #[.int .i64 n1, .int .i64 d1], .agg #[.int .i64 n2, .int .i64 d2]] w fun e w' => e = .returned (.bool true) ∧ Below w.heap.size w w' := by
  rcases h : (okQ n1 d1 && okQ n2 d2) with _ | _
  · exact walk_no n1 d1 n2 d2 h w
  · exact walk_yes n1 d1 n2 d2 h w

set_option maxRecDepth 100000 in
theorem lifted (os : Os) (started : os.Started) (H : Type) (enc : TypeId × Value → H) :
    ReturnsInHanded {} Try.checked os 6 .any (Rows.fnExactCompareRatsSpec.pre6 enc Try.prog Try.f6 Rows.fnExactCompareRatsRow.domain false) (Rows.fnExactCompareRatsSpec.post enc Try.prog Try.f6 false true false false) := by
  refine returnsInHanded_of_change (C := Try.checked) Try.own started (by kernel_rfl) Try.func6
    (ChangeSpec.witness6 (enc := enc) (C := Try.checked) false ⟨#[], #[.agg #[.int .i64 0, .int .i64 1], .agg #[.int .i64 0, .int .i64 1]], []⟩ 8 (by kernel_rfl) (by kernel_rfl) (by kernel_rfl) (by kernel_rfl)) ?_
  intro W base args ds gs before hval0 hW hcnd _
  have hval : ∀ (j : Nat) t v, Try.f6.params[j]? = some t → args[j]? = some v → Value.okWide Try.prog W .any base t v := hval0
  have hW' := hW
  obtain ⟨p, q, hA0, hV, rfl, hfz, hnd⟩ := hW
  have hA : DataW.TrodAll enc Try.prog W 0 (fun _ => true) true Try.f6.params.toList args.toList ds p := hA0
  rw [Try.params6] at hA hval
  obtain ⟨v0, v1, d0, d1, p0, p1, rfl, rfl, rfl, h0, h1⟩ := trodAll_two hA
  obtain ⟨n0, m0, rfl, bn0, bm0⟩ := open_rat (hval 0 24 v0 rfl rfl) h0
  obtain ⟨n1, m1, rfl, bn1, bm1⟩ := open_rat (hval 1 24 v1 rfl rfl) h1
  refine (walk n0 m0 n1 m1 W).mono fun e W' ⟨he, hb⟩ => ?_
  subst he
  exact ⟨_, rfl, law_close Try.laidOut (by kernel_rfl) (by kernel_rfl) Try.underlying4 rfl hW' (fun h => by rfl) hb⟩

theorem proved : Rows.FnExactCompareRatsSaid :=
  OpenClaim.holds_of_wide 6 Try.f6 rfl rfl rfl rfl rfl rfl rfl ⟨rfl, rfl, rfl, rfl, rfl⟩ rfl rfl rfl rfl rfl (by kernel_rfl) Try.func6 (by kernel_rfl)
    (of_decide_eq_true (by kernel_rfl)) (by unfold Func.isWrapper; first | (rw [if_pos (by decide +kernel)]; kernel_rfl) | (rw [if_neg (by decide +kernel)]; exact ⟨rfl, rfl⟩))
    (fun os started H enc _ => lifted os started H enc)

end Go.Proofs.Ytnlapkdmjlcedaa.lawCompareRats
