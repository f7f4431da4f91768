/- Proved: for all arguments, the program's FloorOf returns what the reference's returns, and the arguments read afterwards as they did. No condition. -/
import Derived.Test.YtnlapkdmjlcedaaConv
import Derived.Test.YtnlapkdmjlcedaaRat9
namespace Go.Proofs.Ytnlapkdmjlcedaa.lawFloorOf
open Go.Proofs.Ytnlapkdmjlcedaa
open Go.ChangeShapes Go.WideShapes Go.ChangeAt Go.RowKit Go.Joins

set_option maxHeartbeats 400000 in
theorem walk_yes (n d : Int) (h : okQ n d = true) (w : World) :
    Calls Try.prog 5 #[.agg #[.int .i64 n, .int .i64 d]] w fun e w' => e = .returned (.bool true) ∧ Below w.heap.size w w' := by
  have HS := Lib.hid h
  clear h
  go_enter Try.func5, Try.ntmps5
  go_wp2_with fail
  refine (toRat_any n d _).mono ?_
  rintro e w1 ⟨rfl, hb⟩
  have c0 : w1.cell? ⟨w.heap.size, 0, none⟩ = some (.int .i64 n) := cellB hb (by simp [go_sem])
  have c1 : w1.cell? ⟨w.heap.size, 1, none⟩ = some (.int .i64 d) := cellB hb (by simp [go_sem])
  have hB : Below w.heap.size w w1 := nextB (by go_grown) (by go_size) hb
  go_wp2_with fail
  refine (specFloorOf_yes n d HS.out _).mono ?_
  rintro e w2 ⟨rfl, hb2⟩
  replace c0 := cellB hb2 c0
  replace c1 := cellB hb2 c1
  replace hB := nextW hB hb2
  clear hb hb2
  go_wp2_with fail
  refine (toRat_any n d _).mono ?_
  rintro e w3 ⟨rfl, hb⟩
  replace hB := nextW hB hb
  go_wp2_with fail
  refine (implFloorOf_yes n d HS.out _).mono ?_
  rintro e w4 ⟨rfl, hb2⟩
  replace hB := nextW hB hb2
  go_wp2_with fail
  go_ret
  exact ⟨rfl, hB⟩

set_option maxHeartbeats 400000 in
theorem walk_no (n d : Int) (h : okQ n d = false) (w : World) :
    Calls Try.prog 5 #[.agg #[.int .i64 n, .int .i64 d]] w fun e w' => e = .returned (.bool true) ∧ Below w.heap.size w w' := by
  have HS := Lib.hid h
  clear h
  go_enter Try.func5, Try.ntmps5
  go_wp2_with fail
  refine (toRat_any n d _).mono ?_
  rintro e w1 ⟨rfl, hb⟩
  have c0 : w1.cell? ⟨w.heap.size, 0, none⟩ = some (.int .i64 n) := cellB hb (by simp [go_sem])
  have c1 : w1.cell? ⟨w.heap.size, 1, none⟩ = some (.int .i64 d) := cellB hb (by simp [go_sem])
  have hB : Below w.heap.size w w1 := nextB (by go_grown) (by go_size) hb
  go_wp2_with fail
  refine (specFloorOf_no n d HS.out _).mono ?_
  rintro e w2 ⟨rfl, hb2⟩
  replace c0 := cellB hb2 c0
  replace c1 := cellB hb2 c1
  replace hB := nextW hB hb2
  clear hb hb2
  go_wp2_with fail
  refine (toRat_any n d _).mono ?_
  rintro e w3 ⟨rfl, hb⟩
  replace hB := nextW hB hb
  go_wp2_with fail
  refine (implFloorOf_no n d HS.out _).mono ?_
  rintro e w4 ⟨rfl, hb2⟩
  replace hB := nextW hB hb2
  go_wp2_with fail
  go_ret
  exact ⟨rfl, hB⟩

theorem walk (n d : Int) (w : World) :
    Calls Try.prog 5 #[.agg #[.int .i64 n, .int .i64 d]] w fun e w' => e = .returned (.bool true) ∧ Below w.heap.size w w' := by
  rcases h : okQ n d with _ | _
  · exact walk_no n d h w
  · exact walk_yes n d h w

set_option maxRecDepth 100000 in
theorem lifted (os : Os) (started : os.Started) (H : Type) (enc : TypeId × Value → H) :
    ReturnsInHanded {} Try.checked os 5 .any (Rows.fnExactFloorOfSpec.pre6 enc Try.prog Try.f5 Rows.fnExactFloorOfRow.domain false) (Rows.fnExactFloorOfSpec.post enc Try.prog Try.f5 false true false false) := by
  refine returnsInHanded_of_change (C := Try.checked) Try.own started (by kernel_rfl) Try.func5
    (ChangeSpec.witness6 (enc := enc) (C := Try.checked) false ⟨#[], #[.agg #[.int .i64 0, .int .i64 1]], []⟩ 8 (by kernel_rfl) (by kernel_rfl) (by kernel_rfl) (by kernel_rfl)) ?_
  intro W base args ds gs before hval0 hW hcnd _
  have hval : ∀ (j : Nat) t v, Try.f5.params[j]? = some t → args[j]? = some v → Value.okWide Try.prog W .any base t v := hval0
  have hW' := hW
  obtain ⟨p, q, hA0, hV, rfl, hfz, hnd⟩ := hW
  have hA : DataW.TrodAll enc Try.prog W 0 (fun _ => true) true Try.f5.params.toList args.toList ds p := hA0
  rw [Try.params5] at hA hval
  obtain ⟨v0, d0, rfl, rfl, h0⟩ := trodAll_one hA
  obtain ⟨n0, m0, rfl, bn0, bm0⟩ := open_rat (hval 0 24 v0 rfl rfl) h0
  refine (walk n0 m0 W).mono fun e W' ⟨he, hb⟩ => ?_
  subst he
  exact ⟨_, rfl, law_close Try.laidOut (by kernel_rfl) (by kernel_rfl) Try.underlying4 rfl hW' (fun h => by rfl) hb⟩

theorem proved : Rows.FnExactFloorOfSaid :=
  OpenClaim.holds_of_wide 5 Try.f5 rfl rfl rfl rfl rfl rfl rfl ⟨rfl, rfl, rfl, rfl, rfl⟩ rfl rfl rfl rfl rfl (by kernel_rfl) Try.func5 (by kernel_rfl)
    (of_decide_eq_true (by kernel_rfl)) (by unfold Func.isWrapper; first | (rw [if_pos (by decide +kernel)]; kernel_rfl) | (rw [if_neg (by decide +kernel)]; exact ⟨rfl, rfl⟩))
    (fun os started H enc _ => lifted os started H enc)

end Go.Proofs.Ytnlapkdmjlcedaa.lawFloorOf
