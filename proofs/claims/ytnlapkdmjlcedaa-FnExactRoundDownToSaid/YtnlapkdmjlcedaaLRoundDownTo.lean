/- Proved: for all arguments, the program's RoundDownTo returns what the reference's returns, and the arguments read afterwards as they did. No condition. -/
import Derived.Test.YtnlapkdmjlcedaaLawTwo
import Derived.Test.YtnlapkdmjlcedaaRat9
import Derived.Test.YtnlapkdmjlcedaaOpenInt
namespace Go.Proofs.Ytnlapkdmjlcedaa.lawRoundDownTo
open Go.Proofs.Ytnlapkdmjlcedaa
open Go.ChangeShapes Go.WideShapes Go.ChangeAt Go.RowKit Go.Joins

set_option maxHeartbeats 400000 in
theorem walk_yes (n d m a b : Int) (t : Bool) (h : okQ n d = true) (h1 : 1 ≤ m) (h2 : m ≤ 1000000000) (hl : lowQ (downQ (n * m) d) m = (a, b, t)) (w : World) :
    Calls Try.prog 13 #[.agg #[.int .i64 n, .int .i64 d], .int .i64 m] w fun e w' => e = .returned (.bool true) ∧ Below w.heap.size w w' := by
  have HS := Lib.hid h
  have HL := Lib.hid hl
  clear h hl
  go_enter Try.func13, Try.ntmps13
  go_wp2_with fail
  refine (toRat_any n d _).mono ?_
  rintro e w1 ⟨rfl, hb⟩
  have c0 : w1.cell? ⟨w.heap.size, 0, none⟩ = some (.int .i64 n) := cellB hb (by simp [go_sem])
  have c1 : w1.cell? ⟨w.heap.size, 1, none⟩ = some (.int .i64 d) := cellB hb (by simp [go_sem])
  have hB : Below w.heap.size w w1 := nextB (by go_grown) (by go_size) hb
  clear hb
  go_wp2_with fail
  refine (specRound_yes n d m a b t HS.out h1 h2 HL.out _).mono ?_
  rintro e w2 ⟨rfl, hb⟩
  replace c0 := cellB hb c0
  replace c1 := cellB hb c1
  replace hB := nextW hB hb
  have z := hB.size
  clear hb
  have l0 := lt_of_cell c0
  go_wp2_with fail
  refine (toRat_any n d _).mono ?_
  rintro e w3 ⟨rfl, hb⟩
  have s0 : Slot w3 w2.heap.size 0 (.int .i64 a) := slotB hb (slotNew w2 (.int .i64 a) (.int .i64 b) 26).1
  have s1 : Slot w3 w2.heap.size 1 (.int .i64 b) := slotB hb (slotNew w2 (.int .i64 a) (.int .i64 b) 26).2
  replace hB : Below w.heap.size w w3 := nextB (by go_grown) (by go_size) hb
  clear hb c0 c1 l0
  go_wp2_with fail
  refine (implRound_yes n d m a b t HS.out h1 h2 HL.out _).mono ?_
  rintro e w4 ⟨rfl, hb⟩
  obtain ⟨q0, f0⟩ := slotB hb s0
  obtain ⟨q1, f1⟩ := slotB hb s1
  have hl := Nat.lt_of_lt_of_le (lt_of_cell s0.1) hb.size
  replace hB := nextW hB hb
  replace z := hB.size
  clear hb s0 s1
  go_wp2_with fail
  refine (eqRat_same a b _).mono ?_
  rintro e w5 ⟨rfl, hb⟩
  replace hB : Below w.heap.size w w5 := nextB (by go_grown) (by go_size) hb
  clear hb
  go_wp2_with fail
  go_ret
  exact ⟨rfl, hB⟩

set_option maxHeartbeats 400000 in
theorem walk_no1 (n d m : Int) (h : okQ n d = false) (w : World) :
    Calls Try.prog 13 #[.agg #[.int .i64 n, .int .i64 d], .int .i64 m] w fun e w' => e = .returned (.bool true) ∧ Below w.heap.size w w' := by
  have HS := Lib.hid h
  clear h
  go_enter Try.func13, Try.ntmps13
  go_wp2_with fail
  refine (toRat_any n d _).mono ?_
  rintro e w1 ⟨rfl, hb⟩
  have c0 : w1.cell? ⟨w.heap.size, 0, none⟩ = some (.int .i64 n) := cellB hb (by simp [go_sem])
  have c1 : w1.cell? ⟨w.heap.size, 1, none⟩ = some (.int .i64 d) := cellB hb (by simp [go_sem])
  have hB : Below w.heap.size w w1 := nextB (by go_grown) (by go_size) hb
  clear hb
  go_wp2_with fail
  refine (specRound_no1 n d m HS.out _).mono ?_
  rintro e w2 ⟨rfl, hb⟩
  replace c0 := cellB hb c0
  replace c1 := cellB hb c1
  replace hB := nextW hB hb
  have z := hB.size
  clear hb
  have l0 := lt_of_cell c0
  go_wp2_with fail
  refine (toRat_any n d _).mono ?_
  rintro e w3 ⟨rfl, hb⟩
  have s0 : Slot w3 w2.heap.size 0 (.int .i64 0) := slotB hb (slotNew w2 (.int .i64 0) (.int .i64 0) 26).1
  have s1 : Slot w3 w2.heap.size 1 (.int .i64 0) := slotB hb (slotNew w2 (.int .i64 0) (.int .i64 0) 26).2
  replace hB : Below w.heap.size w w3 := nextB (by go_grown) (by go_size) hb
  clear hb c0 c1 l0
  go_wp2_with fail
  refine (implRound_no1 n d m HS.out _).mono ?_
  rintro e w4 ⟨rfl, hb⟩
  obtain ⟨q0, f0⟩ := slotB hb s0
  obtain ⟨q1, f1⟩ := slotB hb s1
  have hl := Nat.lt_of_lt_of_le (lt_of_cell s0.1) hb.size
  replace hB := nextW hB hb
  replace z := hB.size
  clear hb s0 s1
  go_wp2_with fail
  refine (eqRat_same 0 0 _).mono ?_
  rintro e w5 ⟨rfl, hb⟩
  replace hB : Below w.heap.size w w5 := nextB (by go_grown) (by go_size) hb
  clear hb
  go_wp2_with fail
  go_ret
  exact ⟨rfl, hB⟩

set_option maxHeartbeats 400000 in
theorem walk_no2 (n d m : Int) (h : okQ n d = true) (hm : ¬ (1 ≤ m ∧ m ≤ 1000000000)) (w : World) :
    Calls Try.prog 13 #[.agg #[.int .i64 n, .int .i64 d], .int .i64 m] w fun e w' => e = .returned (.bool true) ∧ Below w.heap.size w w' := by
  have HS := Lib.hid h
  have HM := Lib.hid hm
  clear h hm
  go_enter Try.func13, Try.ntmps13
  go_wp2_with fail
  refine (toRat_any n d _).mono ?_
  rintro e w1 ⟨rfl, hb⟩
  have c0 : w1.cell? ⟨w.heap.size, 0, none⟩ = some (.int .i64 n) := cellB hb (by simp [go_sem])
  have c1 : w1.cell? ⟨w.heap.size, 1, none⟩ = some (.int .i64 d) := cellB hb (by simp [go_sem])
  have hB : Below w.heap.size w w1 := nextB (by go_grown) (by go_size) hb
  clear hb
  go_wp2_with fail
  refine (specRound_no2 n d m HS.out HM.out _).mono ?_
  rintro e w2 ⟨rfl, hb⟩
  replace c0 := cellB hb c0
  replace c1 := cellB hb c1
  replace hB := nextW hB hb
  have z := hB.size
  clear hb
  have l0 := lt_of_cell c0
  go_wp2_with fail
  refine (toRat_any n d _).mono ?_
  rintro e w3 ⟨rfl, hb⟩
  have s0 : Slot w3 w2.heap.size 0 (.int .i64 0) := slotB hb (slotNew w2 (.int .i64 0) (.int .i64 0) 26).1
  have s1 : Slot w3 w2.heap.size 1 (.int .i64 0) := slotB hb (slotNew w2 (.int .i64 0) (.int .i64 0) 26).2
  replace hB : Below w.heap.size w w3 := nextB (by go_grown) (by go_size) hb
  clear hb c0 c1 l0
  go_wp2_with fail
  refine (implRound_no2 n d m HS.out HM.out _).mono ?_
  rintro e w4 ⟨rfl, hb⟩
  obtain ⟨q0, f0⟩ := slotB hb s0
  obtain ⟨q1, f1⟩ := slotB hb s1
  have hl := Nat.lt_of_lt_of_le (lt_of_cell s0.1) hb.size
  replace hB := nextW hB hb
  replace z := hB.size
  clear hb s0 s1
  go_wp2_with fail
  refine (eqRat_same 0 0 _).mono ?_
  rintro e w5 ⟨rfl, hb⟩
  replace hB : Below w.heap.size w w5 := nextB (by go_grown) (by go_size) hb
  clear hb
  go_wp2_with fail
  go_ret
  exact ⟨rfl, hB⟩

theorem walk (n d m : Int) (w : World) :
    Calls Try.prog 13 #[.agg #[.int .i64 n, .int .i64 d], .int .i64 m] w fun e w' => e = .returned (.bool true) ∧ Below w.heap.size w w' := by
  rcases h : okQ n d with _ | _
  · exact walk_no1 n d m h w
  · by_cases hm : 1 ≤ m ∧ m ≤ 1000000000
    · exact walk_yes n d m _ _ _ h hm.1 hm.2 rfl w
    · exact walk_no2 n d m h hm w

set_option maxRecDepth 100000 in
theorem lifted (os : Os) (started : os.Started) (H : Type) (enc : TypeId × Value → H) :
    ReturnsInHanded {} Try.checked os 13 .any (Rows.fnExactRoundDownToSpec.pre6 enc Try.prog Try.f13 Rows.fnExactRoundDownToRow.domain false) (Rows.fnExactRoundDownToSpec.post enc Try.prog Try.f13 false true false false) := by
  refine returnsInHanded_of_change (C := Try.checked) Try.own started (by kernel_rfl) Try.func13
    (ChangeSpec.witness6 (enc := enc) (C := Try.checked) false ⟨#[], #[.agg #[.int .i64 0, .int .i64 1], .int .i64 0], []⟩ 8 (by kernel_rfl) (by kernel_rfl) (by kernel_rfl) (by kernel_rfl)) ?_
  intro W base args ds gs before hval0 hW hcnd _
  have hval : ∀ (j : Nat) t v, Try.f13.params[j]? = some t → args[j]? = some v → Value.okWide Try.prog W .any base t v := hval0
  have hW' := hW
  obtain ⟨p, q, hA0, hV, rfl, hfz, hnd⟩ := hW
  have hA : DataW.TrodAll enc Try.prog W 0 (fun _ => true) true Try.f13.params.toList args.toList ds p := hA0
  rw [Try.params13] at hA hval
  obtain ⟨v0, v1, d0, d1, p0, p1, rfl, rfl, rfl, h0, h1⟩ := trodAll_two hA
  obtain ⟨n0, m0, rfl, bn0, bm0⟩ := open_rat (hval 0 24 v0 rfl rfl) h0
  obtain ⟨x1, rfl, bx1⟩ := open_whole (hval 1 3 v1 rfl rfl) h1
  refine (walk n0 m0 x1 W).mono fun e W' ⟨he, hb⟩ => ?_
  subst he
  exact ⟨_, rfl, law_close Try.laidOut (by kernel_rfl) (by kernel_rfl) Try.underlying4 rfl hW' (fun h => by rfl) hb⟩

theorem proved : Rows.FnExactRoundDownToSaid :=
  OpenClaim.holds_of_wide 13 Try.f13 rfl rfl rfl rfl rfl rfl rfl ⟨rfl, rfl, rfl, rfl, rfl⟩ rfl rfl rfl rfl rfl (by kernel_rfl) Try.func13 (by kernel_rfl)
    (of_decide_eq_true (by kernel_rfl)) (by unfold Func.isWrapper; first | (rw [if_pos (by decide +kernel)]; kernel_rfl) | (rw [if_neg (by decide +kernel)]; exact ⟨rfl, rfl⟩))
    (fun os started H enc _ => lifted os started H enc)

end Go.Proofs.Ytnlapkdmjlcedaa.lawRoundDownTo
