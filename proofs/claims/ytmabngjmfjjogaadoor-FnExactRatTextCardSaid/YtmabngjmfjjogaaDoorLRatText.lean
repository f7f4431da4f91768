/- Proved: for all fractions, the program's RatText returns what the reference's returns, and the argument reads afterwards as it did; the library's tables are as its text lays them (the card ties them to this pruned copy of the project). -/
import Derived.Test.YtmabngjmfjjogaaDoorRatT
import Derived.Test.YtmabngjmfjjogaaDoorLaws
import Derived.Test.YtmabngjmfjjogaaDoorCards
import Derived.Test.YtmabngjmfjjogaaDoorTie
import Derived.SevenTiedAt
import Derived.Lib.LaidTab
import Derived.LaidMore
import Derived.Stop.LaidErr
import Derived.Stop.Joined
import Derived.ProofKit
namespace Go.Proofs.YtmabngjmfjjogaaDoor.lawRatText
open Go.Proofs.YtmabngjmfjjogaaDoor
open Go.ChangeShapes Go.WideShapes Go.ChangeAt Go.RowKit Go.Joins

theorem run_neq_str (W : World) (l : List UInt8) : (binOp .neq 9 (str l) (str l)).run Tryd.prog W = .ok (.bool false) W := by
  unfold str
  go_simp
set_option maxRecDepth 100000 in
set_option maxHeartbeats 1600000 in
theorem walk (n d : Int) (l : List UInt8) (t : Bool) (hl : rtQ n d = (l, t)) (w : World) (ht : Tab w) :
    Calls Tryd.prog 3 #[.agg #[.int .i64 n, .int .i64 d]] w fun e w' => e = .returned (.bool true) ∧ Below w.heap.size w w' := by
  have HL := Lib.hid hl
  have hne : ∀ W, (binOp .neq 9 (str l) (str l)).run Tryd.prog W = .ok (.bool false) W := fun W => run_neq_str W l
  clear hl
  go_enter Tryd.func3, Tryd.ntmps3
  go_wp2_with fail
  refine (toRat_any n d _).mono ?_
  rintro e w1 ⟨rfl, hb⟩
  have hB : Below w.heap.size w w1 := nextX (by go_grown) hb
  have c0 : w1.cell? ⟨w.heap.size, 0, none⟩ = some (.int .i64 n) := cellB hb (by simp [go_sem])
  have c1 : w1.cell? ⟨w.heap.size, 1, none⟩ = some (.int .i64 d) := cellB hb (by simp [go_sem])
  clear hb
  go_wp2_with fail
  refine (sRatText_is n d l t HL.out _).mono ?_
  rintro e w2 ⟨rfl, hb⟩
  have hX : Below w1.heap.size w1 w2 := nextX (by go_grown) hb
  replace hB := nextX hB hX
  replace c0 := cellB hX c0
  replace c1 := cellB hX c1
  clear hb hX
  go_wp2_with fail
  refine (toRat_any n d _).mono ?_
  rintro e w3 ⟨rfl, hb⟩
  replace hB := nextX hB (nextX (by go_grown) hb)
  clear hb c0 c1
  go_wp2_with fail
  refine (iRatText_is n d l t HL.out _ (ht.keep (nextX hB (by go_grown)))).mono ?_
  rintro e w4 ⟨rfl, hb⟩
  replace hB := nextX hB (nextX (by go_grown) hb)
  clear hb
  have heg : ∀ (W : World) (x y : Operand), (eqGuard .neq 9 x y (str l) (str l)).run Tryd.prog W = .ok () W := fun W x y => by unfold str; go_simp
  go_wp2_with fail
  go_ret
  exact ⟨rfl, hB⟩

theorem gT : Tryd.prog.globalNamed "internal/strconv.uint64pow10" = some 3 := by kernel_rfl
theorem gTy : (Tryd.prog.globals[3]?).map (·.type) = some 180 := by kernel_rfl
theorem tab_of {W : World} (h : laidMetH Tryd.prog Rows.fnExactRatTextRow.laid W) : Tab W := by
  rw [MakeChecks.laidMetH_plain _ _ _ (by kernel_rfl)] at h
  exact Lib.tabIs_of_head (n := 20) (e := 107) gT gTy (by kernel_rfl) (by kernel_rfl) (by kernel_rfl) (by kernel_rfl) h.tail.tail

/-- The door's own heap meets the condition. -/
theorem door_met (os : Os) (args : Array Value) : laidMetH Tryd.prog Rows.fnExactRatTextRow.laid ((World.doorLaid Tryd.prog 400 os).forCall (fun _ _ => 0) ⟨#[], args, []⟩).memory :=
  laidMetH_of_parts3 (fuel := 8) (laidMet_of_run' 8 (by kernel_rfl) (by kernel_rfl)) (by kernel_rfl) (by kernel_rfl)

set_option maxRecDepth 100000 in
theorem lifted (os : Os) (started : os.Started) (H : Type) (enc : TypeId × Value → H) :
    ReturnsInHanded {} Tryd.checked os 3 .any (fun w args => (Rows.fnExactRatTextSpec.pre enc Tryd.prog Tryd.f3 [] false w args ∧ laidMetH Tryd.prog Rows.fnExactRatTextRow.laid w) ∧ sizedMet enc Tryd.prog Tryd.f3 (OpenSpec.ofChange Rows.fnExactRatTextSpec) false w args)
      (Rows.fnExactRatTextSpec.post enc Tryd.prog Tryd.f3 false true false false) := by
  refine returnsInHanded_of_change_and (C := Tryd.checked) (X := fun w _ => laidMetH Tryd.prog Rows.fnExactRatTextRow.laid w) (fun _ _ _ hh h => h.of_heap hh) Tryd.own started (by kernel_rfl) Tryd.func3
    (ChangeSpec.witness_shaped (enc := enc) (C := Tryd.checked) (os := os) (X := fun w _ => laidMetH Tryd.prog Rows.fnExactRatTextRow.laid w) false (World.doorLaid Tryd.prog 400 os) #[.agg #[.int .i64 0, .int .i64 1]] 8 rfl (World.shaped_of_RefB (by kernel_rfl) (by kernel_rfl)) (by kernel_rfl) (by kernel_rfl) (by kernel_rfl) (door_met os _)) ?_
  intro W base args ds gs before hval0 hW _ _ hL _
  have hval : ∀ (j : Nat) t v, Tryd.f3.params[j]? = some t → args[j]? = some v → Value.okWide Tryd.prog W .any base t v := hval0
  have hW' := hW
  obtain ⟨p, q, hA0, hV, rfl, hfz, hnd⟩ := hW
  have hA : DataW.TrodAll enc Tryd.prog W 0 (fun _ => true) true Tryd.f3.params.toList args.toList ds p := hA0
  rw [Tryd.params3] at hA hval
  obtain ⟨v0, d0, rfl, rfl, h0⟩ := trodAll_one hA
  obtain ⟨n0, m0, rfl, bn0, bm0⟩ := open_rat (hval 0 23 v0 rfl rfl) h0
  have hT := tab_of hL
  refine (walk n0 m0 _ _ rfl W hT).mono fun e W' ⟨he, hb⟩ => ?_
  subst he
  exact ⟨_, rfl, law_close Tryd.laidOut (by kernel_rfl) (by kernel_rfl) Tryd.underlying4 rfl hW' (fun h => by rfl) hb⟩

theorem row_holds : Rows.FnExactRatTextSaid :=
  OpenClaim.holds_of_wide 3 Tryd.f3 rfl rfl rfl rfl rfl rfl rfl ⟨rfl, rfl, rfl, rfl, rfl⟩ rfl rfl rfl rfl rfl (by kernel_rfl) Tryd.func3 (by kernel_rfl)
    (of_decide_eq_true (by kernel_rfl)) (by unfold Func.isWrapper; first | (rw [if_pos (by decide +kernel)]; kernel_rfl) | (rw [if_neg (by decide +kernel)]; exact ⟨rfl, rfl⟩))
    (fun os started H enc _ => lifted os started H enc)

theorem proved : Rows.FnExactRatTextCardSaid :=
  Claim7.holds_tied_plain_at .later [] [.data, .data, .data] true Rows.fnExactRatTextCard.stood.harness true
    row_holds (fun _ h => by cases h) (by kernel_rfl) (fun _ h => by cases h) fnExactRatText_row_tie rfl ⟨rfl, rfl⟩ (by kernel_rfl) rfl
    (fun f fn hf hfn => by
      obtain rfl : f = 3 := Option.some.inj ((show Tryd.prog.funcNamed "loop.example/g01003/laws.FnExactRatText" = some 3 by kernel_rfl).symm.trans hf) |>.symm
      obtain rfl : fn = Tryd.f3 := (Option.some.inj (Tryd.func3.symm.trans hfn)).symm
      exact ⟨by kernel_rfl, fun j t ht => by
        rw [Tryd.params3] at ht
        have h3 : t = 23 := by
          rcases j with _ | j
          · simpa using ht.symm
          · simp at ht
        subst h3
        exact (show Tryd.prog.wantsStandIn 23 = false by kernel_rfl)⟩)
    (by kernel_rfl)

end Go.Proofs.YtmabngjmfjjogaaDoor.lawRatText
