/- Proved: for all arguments, the program's MakeRat returns what the reference's returns, and the arguments read afterwards as they did. No condition. -/
import Derived.Test.YtnlapkdmjlcedaaLawTwo
import Derived.Test.YtnlapkdmjlcedaaRat9
import Derived.Test.YtnlapkdmjlcedaaOpenInt
namespace Go.Proofs.Ytnlapkdmjlcedaa.lawMakeRat
open Go.Proofs.Ytnlapkdmjlcedaa
open Go.ChangeShapes Go.WideShapes Go.ChangeAt Go.RowKit Go.Joins

set_option maxHeartbeats 400000 in
theorem walk_yes (n d a b : Int) (t : Bool) (hn : -1000000000000000000 ≤ n ∧ n ≤ 1000000000000000000) (hd : -1000000000000000000 ≤ d ∧ d ≤ 1000000000000000000) (h0 : d ≠ 0) (hl : lowQ n d = (a, b, t)) (w : World) :
    Calls Try.prog 7 #[.int .i64 n, .int .i64 d] w fun e w' => e = .returned (.bool true) ∧ Below w.heap.size w w' := by
  have H0 := Lib.hid h0
  have HL := Lib.hid hl
  clear h0 hl
  go_enter Try.func7, Try.ntmps7
  go_wp2_with fail
  refine (specMake_yes n d a b t hn hd H0.out HL.out _).mono ?_
  rintro e w1 ⟨rfl, hb⟩
  have hB : Below w.heap.size w w1 := nextB (by go_grown) (by go_size) hb
  have z := hB.size
  clear hb
  go_wp2_with fail
  refine (implMake_yes n d a b t hn hd H0.out HL.out _).mono ?_
  rintro e w2 ⟨rfl, hb⟩
  have s0 : Slot w2 w1.heap.size 0 (.int .i64 a) := slotB hb (slotNew w1 (.int .i64 a) (.int .i64 b) 26).1
  have s1 : Slot w2 w1.heap.size 1 (.int .i64 b) := slotB hb (slotNew w1 (.int .i64 a) (.int .i64 b) 26).2
  obtain ⟨q0, f0⟩ := s0
  obtain ⟨q1, f1⟩ := s1
  have hl := lt_of_cell q0
  replace hB : Below w.heap.size w w2 := nextB (by go_grown) (by go_size) hb
  clear hb
  go_wp2_with fail
  refine (eqRat_same a b _).mono ?_
  rintro e w3 ⟨rfl, hb⟩
  replace hB : Below w.heap.size w w3 := nextB (by go_grown) (by go_size) hb
  clear hb
  go_wp2_with fail
  go_ret
  exact ⟨rfl, hB⟩

set_option maxHeartbeats 400000 in
theorem walk_no1 (n d : Int) (hn : ¬ (-1000000000000000000 ≤ n ∧ n ≤ 1000000000000000000)) (w : World) :
    Calls Try.prog 7 #[.int .i64 n, .int .i64 d] w fun e w' => e = .returned (.bool true) ∧ Below w.heap.size w w' := by
  have HN := Lib.hid hn
  clear hn
  go_enter Try.func7, Try.ntmps7
  go_wp2_with fail
  refine (specMake_no1 n d HN.out _).mono ?_
  rintro e w1 ⟨rfl, hb⟩
  have hB : Below w.heap.size w w1 := nextB (by go_grown) (by go_size) hb
  have z := hB.size
  clear hb
  go_wp2_with fail
  refine (implMake_no1 n d HN.out _).mono ?_
  rintro e w2 ⟨rfl, hb⟩
  have s0 : Slot w2 w1.heap.size 0 (.int .i64 0) := slotB hb (slotNew w1 (.int .i64 0) (.int .i64 0) 26).1
  have s1 : Slot w2 w1.heap.size 1 (.int .i64 0) := slotB hb (slotNew w1 (.int .i64 0) (.int .i64 0) 26).2
  obtain ⟨q0, f0⟩ := s0
  obtain ⟨q1, f1⟩ := s1
  have hl := lt_of_cell q0
  replace hB : Below w.heap.size w w2 := nextB (by go_grown) (by go_size) hb
  clear hb
  go_wp2_with fail
  refine (eqRat_same 0 0 _).mono ?_
  rintro e w3 ⟨rfl, hb⟩
  replace hB : Below w.heap.size w w3 := nextB (by go_grown) (by go_size) hb
  clear hb
  go_wp2_with fail
  go_ret
  exact ⟨rfl, hB⟩

set_option maxHeartbeats 400000 in
theorem walk_no2 (n d : Int) (hn : -1000000000000000000 ≤ n ∧ n ≤ 1000000000000000000) (hd : ¬ (-1000000000000000000 ≤ d ∧ d ≤ 1000000000000000000)) (w : World) :
    Calls Try.prog 7 #[.int .i64 n, .int .i64 d] w fun e w' => e = .returned (.bool true) ∧ Below w.heap.size w w' := by
  have HD := Lib.hid hd
  clear hd
  go_enter Try.func7, Try.ntmps7
  go_wp2_with fail
  refine (specMake_no2 n d hn HD.out _).mono ?_
  rintro e w1 ⟨rfl, hb⟩
  have hB : Below w.heap.size w w1 := nextB (by go_grown) (by go_size) hb
  have z := hB.size
  clear hb
  go_wp2_with fail
  refine (implMake_no2 n d hn HD.out _).mono ?_
  rintro e w2 ⟨rfl, hb⟩
  have s0 : Slot w2 w1.heap.size 0 (.int .i64 0) := slotB hb (slotNew w1 (.int .i64 0) (.int .i64 0) 26).1
  have s1 : Slot w2 w1.heap.size 1 (.int .i64 0) := slotB hb (slotNew w1 (.int .i64 0) (.int .i64 0) 26).2
  obtain ⟨q0, f0⟩ := s0
  obtain ⟨q1, f1⟩ := s1
  have hl := lt_of_cell q0
  replace hB : Below w.heap.size w w2 := nextB (by go_grown) (by go_size) hb
  clear hb
  go_wp2_with fail
  refine (eqRat_same 0 0 _).mono ?_
  rintro e w3 ⟨rfl, hb⟩
  replace hB : Below w.heap.size w w3 := nextB (by go_grown) (by go_size) hb
  clear hb
  go_wp2_with fail
  go_ret
  exact ⟨rfl, hB⟩

set_option maxHeartbeats 400000 in
theorem walk_no3 (n : Int) (hn : -1000000000000000000 ≤ n ∧ n ≤ 1000000000000000000) (w : World) :
    Calls Try.prog 7 #[.int .i64 n, .int .i64 0] w fun e w' => e = .returned (.bool true) ∧ Below w.heap.size w w' := by
  go_enter Try.func7, Try.ntmps7
  go_wp2_with fail
  refine (specMake_no3 n hn _).mono ?_
  rintro e w1 ⟨rfl, hb⟩
  have hB : Below w.heap.size w w1 := nextB (by go_grown) (by go_size) hb
  have z := hB.size
  clear hb
  go_wp2_with fail
  refine (implMake_no3 n hn _).mono ?_
  rintro e w2 ⟨rfl, hb⟩
  have s0 : Slot w2 w1.heap.size 0 (.int .i64 0) := slotB hb (slotNew w1 (.int .i64 0) (.int .i64 0) 26).1
  have s1 : Slot w2 w1.heap.size 1 (.int .i64 0) := slotB hb (slotNew w1 (.int .i64 0) (.int .i64 0) 26).2
  obtain ⟨q0, f0⟩ := s0
  obtain ⟨q1, f1⟩ := s1
  have hl := lt_of_cell q0
  replace hB : Below w.heap.size w w2 := nextB (by go_grown) (by go_size) hb
  clear hb
  go_wp2_with fail
  refine (eqRat_same 0 0 _).mono ?_
  rintro e w3 ⟨rfl, hb⟩
  replace hB : Below w.heap.size w w3 := nextB (by go_grown) (by go_size) hb
  clear hb
  go_wp2_with fail
  go_ret
  exact ⟨rfl, hB⟩

theorem walk (n d : Int) (w : World) :
    Calls Try.prog 7 #[.int .i64 n, .int .i64 d] w fun e w' => e = .returned (.bool true) ∧ Below w.heap.size w w' := by
  by_cases hn : -1000000000000000000 ≤ n ∧ n ≤ 1000000000000000000
  · by_cases hd : -1000000000000000000 ≤ d ∧ d ≤ 1000000000000000000
    · by_cases h0 : d = 0
      · subst h0; exact walk_no3 n hn w
      · exact walk_yes n d _ _ _ hn hd h0 rfl w
    · exact walk_no2 n d hn hd w
  · exact walk_no1 n d hn w

set_option maxRecDepth 100000 in
theorem lifted (os : Os) (started : os.Started) (H : Type) (enc : TypeId × Value → H) :
    ReturnsInHanded {} Try.checked os 7 .any (Rows.fnExactMakeRatSpec.pre6 enc Try.prog Try.f7 Rows.fnExactMakeRatRow.domain false) (Rows.fnExactMakeRatSpec.post enc Try.prog Try.f7 false true false false) := by
  refine returnsInHanded_of_change (C := Try.checked) Try.own started (by kernel_rfl) Try.func7
    (ChangeSpec.witness6 (enc := enc) (C := Try.checked) false ⟨#[], #[.int .i64 0, .int .i64 0], []⟩ 8 (by kernel_rfl) (by kernel_rfl) (by kernel_rfl) (by kernel_rfl)) ?_
  intro W base args ds gs before hval0 hW hcnd _
  have hval : ∀ (j : Nat) t v, Try.f7.params[j]? = some t → args[j]? = some v → Value.okWide Try.prog W .any base t v := hval0
  have hW' := hW
  obtain ⟨p, q, hA0, hV, rfl, hfz, hnd⟩ := hW
  have hA : DataW.TrodAll enc Try.prog W 0 (fun _ => true) true Try.f7.params.toList args.toList ds p := hA0
  rw [Try.params7] at hA hval
  obtain ⟨v0, v1, d0, d1, p0, p1, rfl, rfl, rfl, h0, h1⟩ := trodAll_two hA
  obtain ⟨x0, rfl, bx0⟩ := open_whole (hval 0 3 v0 rfl rfl) h0
  obtain ⟨x1, rfl, bx1⟩ := open_whole (hval 1 3 v1 rfl rfl) h1
  refine (walk x0 x1 W).mono fun e W' ⟨he, hb⟩ => ?_
  subst he
  exact ⟨_, rfl, law_close Try.laidOut (by kernel_rfl) (by kernel_rfl) Try.underlying4 rfl hW' (fun h => by rfl) hb⟩

theorem proved : Rows.FnExactMakeRatSaid :=
  OpenClaim.holds_of_wide 7 Try.f7 rfl rfl rfl rfl rfl rfl rfl ⟨rfl, rfl, rfl, rfl, rfl⟩ rfl rfl rfl rfl rfl (by kernel_rfl) Try.func7 (by kernel_rfl)
    (of_decide_eq_true (by kernel_rfl)) (by unfold Func.isWrapper; first | (rw [if_pos (by decide +kernel)]; kernel_rfl) | (rw [if_neg (by decide +kernel)]; exact ⟨rfl, rfl⟩))
    (fun os started H enc _ => lifted os started H enc)

end Go.Proofs.Ytnlapkdmjlcedaa.lawMakeRat
